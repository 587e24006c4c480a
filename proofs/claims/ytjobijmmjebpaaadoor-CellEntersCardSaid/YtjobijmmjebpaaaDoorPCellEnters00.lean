/- Texts of the law CellEnters, merged: CellEntP, CellEnters, CellEntersL. -/
import Derived.Test.YtjobijmmjebpaaaDoorPCellBorders00
import Derived.Test.YtjobijmmjebpaaaDoorPCellNorms00
import Derived.Test.YtjobijmmjebpaaaDoorPCellBorders02
import Derived.Test.YtjobijmmjebpaaaDoorPCellNorms11
import Derived.Deep.Cut
import Derived.Deep.CutRange
import Derived.Deep.CutBlock
/- CellEnters, in plain words. -/
namespace Go.Proofs.YtjobijmmjebpaaaDoor
open Go.RowKit
/-- places of a row, set to 1 -/
def setOnes (m : List Int) (l : List Nat) : List Int := l.foldl (fun m v => m.set v 1) m
theorem setOnes_len : ∀ (l : List Nat) (m : List Int), (setOnes m l).length = m.length
  | [], _ => rfl
  | v :: l, m => by
    show (setOnes (m.set v 1) l).length = _
    rw [setOnes_len l, List.length_set]
theorem setOnes_snoc (m : List Int) (l : List Nat) (v : Nat) : setOnes m (l ++ [v]) = (setOnes m l).set v 1 := by unfold setOnes; rw [List.foldl_append]; rfl
theorem setOnes_get : ∀ (l : List Nat) (m : List Int) (j : Nat), j < m.length → (setOnes m l)[j]? = if j ∈ l then some 1 else m[j]?
  | [], m, j, _ => by simp [setOnes]
  | v :: l, m, j, h => by
    show (setOnes (m.set v 1) l)[j]? = _
    rw [setOnes_get l _ j (by rw [List.length_set]; exact h)]
    by_cases h1 : j ∈ l
    · simp [h1]
    · rw [if_neg h1]
      by_cases h2 : j = v
      · subst h2; simp [h]
      · rw [if_neg (by simp [h1, h2]), List.getElem?_set_ne (fun e => h2 e.symm)]
theorem setOnes_same {N : Nat} {a b : List Nat} (h : ∀ j, j < N → (j ∈ a ↔ j ∈ b)) : setOnes (List.replicate N 0) a = setOnes (List.replicate N 0) b := by
  apply List.ext_getElem?
  intro j
  by_cases hj : j < N
  · rw [setOnes_get _ _ j (by simpa using hj), setOnes_get _ _ j (by simpa using hj)]
    simp [h j hj]
  · rw [List.getElem?_eq_none (by rw [setOnes_len]; simp; omega), List.getElem?_eq_none (by rw [setOnes_len]; simp; omega)]
/-- the border's nodes, as places -/
def brd (g : Raw) (R : List Int) (e : Int) : List Nat := (List.range R.length).filter (borderH g R e)
theorem borderV_brd (g : Raw) (R : List Int) (e : Int) : borderV g R e = (brd g R e).map fun (i : Nat) => (i : Int) := rfl
theorem brd_lt {g : Raw} {R : List Int} {e : Int} {v : Nat} (h : v ∈ brd g R e) : v < R.length := List.mem_range.1 (List.mem_filter.1 h).1
/-- does an arc come into the cell? -/
def intoH (R : List Int) (e : Int) (a : Ar) : Bool := decide (ofV R a.2.1 = e) && decide (ofV R a.1 ≠ e)
def ins (R : List Int) (e : Int) (l : List Ar) : List Nat := (l.filter (intoH R e)).map fun a => a.2.1.toNat
theorem ins_succ (R : List Int) (e : Int) {l : List Ar} {k : Nat} (h : k < l.length) : ins R e (l.take (k + 1)) = ins R e (l.take k) ++ (if intoH R e l[k] then [l[k].2.1.toNat] else []) := by
  unfold ins
  rw [List.take_succ_eq_append_getElem h, List.filter_append, List.map_append]
  congr 1
  by_cases hk : intoH R e l[k] <;> simp [hk]
theorem brd_ins {g : Raw} (hok : g.Ok) {R : List Int} (hR : (R.length : Int) = g.nodes) {e : Int} (j : Nat) (hj : j < R.length) : j ∈ brd g R e ↔ j ∈ ins R e g.arcs := by
  unfold brd
  rw [List.mem_filter, ← comes_border (by omega), List.any_eq_true]
  unfold ins
  rw [List.mem_map]
  have hof : ofV R (j : Nat) = e ↔ R[j]? = some e := by
    unfold ofV
    rw [if_pos ⟨by omega, by omega⟩, Int.toNat_natCast, List.getElem?_eq_getElem hj]
    simp
  constructor
  · rintro ⟨_, a, ha, h⟩
    unfold comesH at h
    simp only [Bool.and_eq_true, decide_eq_true_eq] at h
    refine ⟨a, List.mem_filter.2 ⟨ha, ?_⟩, by rw [h.1.1]; simp⟩
    unfold intoH
    rw [h.1.1, decide_eq_true (hof.2 h.1.2), decide_eq_true h.2]; rfl
  · rintro ⟨a, ha, he⟩
    obtain ⟨ha, hi⟩ := List.mem_filter.1 ha
    have hb := (hok.arc a ha).2.1
    have hta : a.2.1 = (j : Int) := by omega
    unfold intoH at hi
    rw [hta] at hi
    simp only [Bool.and_eq_true, decide_eq_true_eq] at hi
    refine ⟨List.mem_range.2 hj, a, ha, ?_⟩
    unfold comesH
    rw [hta, decide_eq_true rfl, decide_eq_true (hof.1 hi.1), decide_eq_true hi.2]; rfl
/-- the last one of the first k that is beyond; none: -1 -/
def lastB (R : List Int) (e : Int) (l : List Int) : Nat → Int
  | 0 => -1
  | k + 1 => if ofV R (l[k]?.getD 0) ≠ e then (k : Int) else lastB R e l k
theorem lastB_range (R : List Int) (e : Int) (l : List Int) : ∀ k, -1 ≤ lastB R e l k ∧ lastB R e l k < k
  | 0 => ⟨Int.le_refl _, by show (-1 : Int) < _; omega⟩
  | k + 1 => by
    have := lastB_range R e l k
    unfold lastB
    split <;> omega
theorem lastB_at {R : List Int} {e : Int} {l : List Int} : ∀ {k : Nat} {n : Nat}, lastB R e l k = (n : Int) → ofV R (l[n]?.getD 0) ≠ e ∧ ∀ j, n < j → j < k → ofV R (l[j]?.getD 0) = e
  | 0, n, h => by unfold lastB at h; omega
  | k + 1, n, h => by
    unfold lastB at h
    split at h
    · rename_i hk
      obtain rfl : k = n := by omega
      exact ⟨hk, fun j h1 h2 => by omega⟩
    · rename_i hk
      obtain ⟨h1, h2⟩ := lastB_at h
      refine ⟨h1, fun j h3 h4 => ?_⟩
      by_cases ej : j = k
      · subst ej; exact Decidable.not_not.1 hk
      · exact h2 j h3 (by omega)
theorem wk_step {g : Raw} : ∀ {M l : List Int} {s : Int} {n : Nat}, wk g s M = some l → n + 1 < (s :: l).length → ∃ a, a ∈ g.arcs ∧ a.1 = (s :: l)[n]?.getD 0 ∧ a.2.1 = (s :: l)[n + 1]?.getD 0
  | [], l, s, n, h, hn => by cases h; simp at hn
  | i :: M, l, s, n, h, hn => by
    obtain ⟨a, l', h1, h2, h3, rfl⟩ := wk_cons h
    cases n with
    | zero =>
      refine ⟨a, ?_, h2, rfl⟩
      unfold arcI at h1
      split at h1
      · exact List.mem_of_getElem? h1
      · cases h1
    | succ n =>
      obtain ⟨b, hb1, hb2, hb3⟩ := wk_step (n := n) h3 (by simpa using hn)
      exact ⟨b, hb1, by simpa using hb2, by simpa using hb3⟩
/-- THE STAGE'S THEOREM, in plain words -/
theorem enters {g : Raw} (hok : g.Ok) {R : List Int} (hR : (R.length : Int) = g.nodes) {s : Int} {M l : List Int} (hw : wk g s M = some l) {e : Int} (he : ofV R (lastN s l) = e) {n : Nat} (hn : lastB R e (s :: l) (l.length + 1) = (n : Int)) :
    n + 1 < l.length + 1 ∧ ∃ v : Nat, (s :: l)[n + 1]? = some (v : Int) ∧ v < R.length ∧ v ∈ brd g R e := by
  obtain ⟨h1, h2⟩ := lastB_at hn
  have hr := lastB_range R e (s :: l) (l.length + 1)
  have hlast : (s :: l)[l.length]? = some (lastN s l) := by
    rw [List.getElem?_eq_getElem (by simp)]
    have : ∀ (s : Int) (l : List Int), (s :: l)[l.length]'(by simp) = lastN s l := fun s l => by
      induction l generalizing s with
      | nil => rfl
      | cons a l ih => rw [lastN_cons]; exact ih a
    rw [this]
  have hnl : n ≠ l.length := fun ee => by
    subst ee
    rw [hlast] at h1
    exact h1 he
  have hlt : n + 1 < l.length + 1 := by omega
  obtain ⟨a, ha, ha1, ha2⟩ := wk_step (n := n) hw (by simpa using hlt)
  have hb := hok.arc a ha
  obtain ⟨v, hv⟩ := Int.eq_ofNat_of_zero_le hb.2.1.1
  have hvR : v < R.length := by have := hb.2.1.2; omega
  refine ⟨hlt, v, ?_, hvR, (brd_ins hok hR v hvR).2 ?_⟩
  · rw [List.getElem?_eq_getElem (by simp; omega)]
    rw [List.getElem?_eq_getElem (by simp; omega)] at ha2
    rw [← hv, ha2]; rfl
  · unfold ins
    refine List.mem_map.2 ⟨a, List.mem_filter.2 ⟨ha, ?_⟩, by rw [hv]; simp⟩
    unfold intoH
    rw [ha1, ha2, decide_eq_true (h2 (n + 1) (by omega) (by omega)), decide_eq_true h1]; rfl
end Go.Proofs.YtjobijmmjebpaaaDoor
/- CellEnters, its walk. -/
namespace Go.Proofs.YtjobijmmjebpaaaDoor
open Go.RowKit Go.Shelf
theorem SlI_after {w w' : World} {v : Value} {k : IntKind} {l : List Int} (hb : Below w.heap.size w w') (h : SlI w v k l) : SlI w' v k l := by
  obtain ⟨a, cap, rfl, h1, h2, h3⟩ := h
  refine ⟨a, cap, rfl, h1, h2, fun i hi => ?_⟩
  obtain ⟨b, off, rfl, hc⟩ := h3 i hi
  exact ⟨b, off, rfl, cell_later hb hc⟩
theorem nodes_isE {g : Raw} {s : Int} {L l : List Int} (hc : nodesV g s L = some l) (hL : L.length ≤ 100000) (p : Nat) (va : Value) (w : World) (h : NetAt w p g) (ha : SlX w va L) :
    Calls Tryd.prog 23 #[.pointer (some ⟨p, 0, none⟩), .int .i64 s, va] w fun e w' => ∃ a cp, e = .returned (.tuple #[.slice a l.length cp, .bool true]) ∧ SlX w' (.slice a l.length cp) l ∧ Below w.heap.size w w' := by
  refine (callsIn_wide.1 (wnodes_in 4 (Nat.le_refl _) p g s va L hL w h ha)).mono ?_
  rintro e w' ⟨v, rfl, hr, hb⟩
  rw [hc] at hr ⊢
  have hs := slX_own rfl hr
  obtain ⟨a, cp, rfl, _⟩ := id hs
  exact ⟨a, cp, rfl, hs, hb⟩
theorem lastN_in {g : Raw} (hok : g.Ok) {s : Int} (hs : 0 ≤ s ∧ s < g.nodes) {M l : List Int} (hw : wk g s M = some l) : 0 ≤ lastN s l ∧ lastN s l < g.nodes := by
  have h := wk_nodes (fun a ha => (hok.arc a ha).2.1) hw
  have key : ∀ (s : Int) (l : List Int), (0 ≤ s ∧ s < g.nodes) → (∀ v ∈ l, 0 ≤ v ∧ v < g.nodes) → 0 ≤ lastN s l ∧ lastN s l < g.nodes := fun s l => by
    induction l generalizing s with
    | nil => exact fun h _ => h
    | cons a l ih => exact fun _ h2 => by rw [lastN_cons]; exact ih a (h2 a List.mem_cons_self) (fun v hv => h2 v (List.mem_cons_of_mem _ hv))
  exact key s l hs h
theorem icells_blk_set {w : World} {b : Nat} {m : List Int} {t : TypeId} {fr : Nat × Nat} (h : Blk w b (icells .i64 m) t fr) (v : Nat) (x : Int) : Blk (w.setCell ⟨b, v, none⟩ (.int .i64 x)) b (icells .i64 (m.set v x)) t fr := by
  have := h.set v (.int .i64 x)
  rwa [icells_set] at this
theorem icells_slX {w : World} {b : Nat} {m : List Int} {t : TypeId} {n : Nat} (hn : m.length = n) (hl : n ≤ 1000000) (h : Blk w b (icells .i64 m) t (0, 0)) : SlX w (.slice (some ⟨b, 0, none⟩) n n) m := by
  subst hn
  exact ⟨_, _, rfl, Nat.le_refl _, by unfold maxLen; omega, fun i hi => ⟨b, 0, _, _, _, rfl, h, by rw [Nat.zero_add, icells_get .i64 m i hi]⟩⟩
set_option maxRecDepth 100000 in
set_option maxHeartbeats 8000000 in
theorem cellEnters_any (vb vo vt : Value) (lb lo lt : List Int) (w : World) (hb0 : SlI w vb .u8 lb) (ho0 : SlI w vo .u8 lo) (ht0 : SlI w vt .u8 lt) (hlo : ∀ b ∈ lo, 0 ≤ b ∧ b < 256) (hlt : ∀ b ∈ lt, 0 ≤ b ∧ b < 256) (hg : HG w) : Calls Tryd.prog 6 #[vb, vo, vt] w fun e w' => e = .returned (.bool true) ∧ Below w.heap.size w w' := by
  have HG0 := Lib.hid hg; have HSo := Lib.hid ho0; have HSt := Lib.hid ht0; have HLo := Lib.hid hlo; have HLt := Lib.hid hlt; have HSb := Lib.hid hb0
  have HWk := Lib.hid (works23_any w hg)
  obtain ⟨ba, bc, rfl, _⟩ := id hb0
  obtain ⟨oa, oc, rfl, _⟩ := id ho0
  obtain ⟨ra, rc, rfl, _, hrc, _⟩ := id ht0
  unfold maxLen at hrc
  clear hg hb0 ho0 ht0 hlo hlt
  go_enter Tryd.func6, Tryd.ntmps6
  go_wp2_with fail
  refine HWk.out.mono ?_
  rintro e w1 ⟨rfl, hb⟩
  have HB1 := Lib.hid hb
  have HC := Lib.hid (drawn23_any (.slice ba lb.length bc) lb w1 (SlI_after hb HSb.out))
  clear hb HWk HSb
  go_wp2_with fail
  refine HC.out.mono ?_
  rintro e w2 ⟨rg, g, rfl, hr, hok, hgl, hb⟩
  have hrv := hr.raw
  obtain ⟨vx, vy, vz, rfl, hx, hy, hz⟩ := id hrv
  obtain ⟨xa, xn, xc, rfl⟩ := hx.form
  obtain ⟨ya, yn, yc, rfl⟩ := hy.form
  obtain ⟨za, zc, rfl, _⟩ := id hz
  obtain ⟨N, hN⟩ : ∃ N : Nat, (N : Int) = g.nodes := ⟨g.nodes.toNat, by have := hok.nodes.1; omega⟩
  rw [← hN] at hrv ⊢
  have HNn := Lib.hid hN
  have hN12 : 1 ≤ N ∧ N ≤ 12 := by have := hgl.1; have := hok.nodes.1; omega
  have HN12 := Lib.hid hN12
  have HB2 := Lib.hid (HB1.out.next' hb); have HR2 := Lib.hid hrv; have HOk := Lib.hid hok; have HGl := Lib.hid hgl; have HA2 := Lib.hid hz
  clear hr hrv hx hy hz hb hok hgl HC HB1 hN hN12
  obtain ⟨w3, hw3⟩ : ∃ u, u = w2.alloc (.cells #[.int .i64 (N : Nat), .slice xa xn xc, .slice ya yn yc, .slice za g.arcs.length zc] 26) := ⟨_, rfl⟩
  obtain ⟨B7, hB7⟩ : ∃ b, b = w2.heap.size := ⟨_, rfl⟩
  have hb3 : Below w2.heap.size w2 w3 := by rw [hw3]; exact (Below.refl _ _).alloc (Nat.le_refl _) _
  have k7 : Blk w3 B7 #[.int .i64 (N : Nat), .slice xa xn xc, .slice ya yn yc, .slice za g.arcs.length zc] 26 (0, 0) := by rw [hw3, hB7]; exact Blk.new _ _ _ _
  have HK3 := Lib.hid k7; have HW3 := Lib.hid hw3; have HE7 := Lib.hid hB7; have HB3 := Lib.hid (HB2.out.next' hb3)
  have HV3 := Lib.hid (show RawV w3 (.agg #[.int .i64 (N : Nat), .slice xa xn xc, .slice ya yn yc, .slice za g.arcs.length zc]) g from HR2.out.below hb3); have HA3 := Lib.hid (HA2.out.keep (KpC.of_below hb3))
  have HM := Lib.hid (made_any (.agg #[.int .i64 (N : Nat), .slice xa xn xc, .slice ya yn yc, .slice za g.arcs.length zc]) g w3 (HG0.out.later HB3.out) HV3.out HOk.out (by have := HOk.out; have := HGl.out; exact ⟨by have := HOk.out.lenX; omega, by have := HOk.out.lenY; omega, by omega⟩))
  clear hw3 hb3 k7 hB7 HR2 HB2 HA2
  go_wp2_with fail
  rw [← HW3.out, ← HE7.out]
  clear HW3 HE7
  refine HM.out.mono ?_
  rintro e w4 ⟨n1, rfl, hn, hb⟩
  have HB4 := Lib.hid (HB3.out.next' hb); have HN4 := Lib.hid hn
  have HK4 := Lib.hid (HK3.out.below hb HK3.out.lt); have HV4 := Lib.hid (HV3.out.below hb); have HA4 := Lib.hid (HA3.out.keep (KpC.of_below hb))
  have e7 := HK4.out.cell 0; have e71 := HK4.out.cell 1; have e72 := HK4.out.cell 2; have e73 := HK4.out.cell 3
  simp only [List.getElem?_toArray, List.getElem?_cons_succ, List.getElem?_cons_zero] at e7 e71 e72 e73
  have HCp := Lib.hid (parted_any (.agg #[.int .i64 (N : Nat), .slice xa xn xc, .slice ya yn yc, .slice za g.arcs.length zc]) g N HNn.out (by have := HN12.out; omega) (.slice oa lo.length oc) lo HLo.out w4 HV4.out (SlI_after HB4.out HSo.out))
  clear hn hb HM HK3 HV3 HA3 HB3 HSo HLo
  go_wp2_with fail
  clear e7 e71 e72 e73
  refine HCp.out.mono ?_
  rintro e w5 ⟨xp, rfl, ho, hb⟩
  have hsp : SlX w5 xp (partedV N lo) := slX_own rfl ho
  have HB5 := Lib.hid (HB4.out.next' hb)
  obtain ⟨R, hR⟩ : ∃ R, normV (partedV N lo) = R := ⟨_, rfl⟩
  have hRl : R.length = N := by rw [← hR]; exact (normS_len _ []).trans (partedV_len _ _)
  have HCn := Lib.hid (norm_is hR (by rw [partedV_len]; have := HN12.out; omega) (fun x hx => wfInt (by have := partedV_range x hx; omega)) hsp)
  rw [hRl] at HCn
  have HN5 := Lib.hid (HN4.out.keep (KpC.of_below hb)); have HK5 := Lib.hid (HK4.out.below hb HK4.out.lt); have HA5 := Lib.hid (HA4.out.keep (KpC.of_below hb))
  obtain ⟨pa, pn, ppc, rfl⟩ := hsp.form
  have HR := Lib.hid (And.intro hR hRl)
  clear ho hb hsp hR hRl HCp HN4 HK4 HV4 HA4 HB4
  go_wp2_with fail
  refine HCn.out.mono ?_
  rintro e w6 ⟨la, lc, rfl, hsr, hb⟩
  have HB6 := Lib.hid (HB5.out.next' hb)
  have hck : CellOk R := by
    rw [← HR.out.1]
    have h1 := partedV_len N lo
    have hn : (normV (partedV N lo)).length = N := (normS_len _ []).trans h1
    have h0 : normV (partedV N lo) ≠ [] := fun e => by rw [e] at hn; have := HN12.out; simp at hn; omega
    have := maxF_range h0 (norm_twice _)
    exact ⟨h0, norm_twice _, by have := HN12.out; omega⟩
  have HCw := Lib.hid (new_is (L := R) (m := maxF R + 1) hck rfl (by have := HR.out.2; have := HN12.out; omega) (fun x hx => by
    have h := norm_range (L := partedV N lo) (x := x) (by rw [HR.out.1]; exact hx)
    rw [partedV_len] at h
    exact wfInt (by have := HN12.out; omega)) (show SlX w6 (.slice la R.length lc) R by rw [HR.out.2]; exact hsr))
  obtain ⟨mx, hmx⟩ : ∃ m, m = maxF R + 1 := ⟨_, rfl⟩
  rw [← hmx, HR.out.2] at HCw
  have HN6 := Lib.hid (HN5.out.keep (KpC.of_below hb)); have HK6 := Lib.hid (HK5.out.below hb HK5.out.lt); have HA6 := Lib.hid (HA5.out.keep (KpC.of_below hb))
  clear hsr hb hck hmx HCn HN5 HK5 HA5 HB5
  go_wp2_with fail
  refine HCw.out.mono ?_
  rintro e w7 ⟨pc, rfl, hc, hb⟩
  have HB7 := Lib.hid (HB6.out.next' hb); have HCs := Lib.hid hc
  have HN7 := Lib.hid (HN6.out.keep (KpC.of_below hb)); have HK7 := Lib.hid (HK6.out.below hb HK6.out.lt); have HA7 := Lib.hid (HA6.out.keep (KpC.of_below hb))
  clear hc hb HCw HN6 HK6 HA6 HB6
  have HSt7 := Lib.hid (SlI_after HB7.out HSt.out)
  go_upto_if 47 with fail
  go_cut [10] from 47 (fun s wx => ∃ a0 : Nat, s = .int .i64 (a0 : Nat) ∧ Hid (a0 < N ∧ Below w7.heap.size w7 wx))
  case first =>
    by_cases h0 : lt.length = 0
    · have h0I : ¬ (0 : Int) < (lt.length : Int) := by omega
      have HD := Lib.hid (show 0 < N ∧ Below w7.heap.size w7 w7 from ⟨by have := HN12.out; omega, Below.refl _ _⟩)
      clear h0
      go_wp2_with fail
      go_meet
      case rel => exact ⟨0, rfl, HD⟩
    · have h0I : (0 : Int) < (lt.length : Int) := by omega
      obtain ⟨rra, rrc, err, _, _, h3⟩ := HSt7.out
      obtain ⟨bt, ot, era, hct⟩ := h3 0 (by omega)
      obtain ⟨rfl, rfl⟩ : ra = rra ∧ rc = rrc := by simpa using err
      subst era
      have hx0 := HLt.out lt[0] (List.getElem_mem _)
      obtain ⟨x0, hx0e⟩ := Int.eq_ofNat_of_zero_le hx0.1
      rw [hx0e] at hct hx0
      rw [Nat.add_zero] at hct
      obtain ⟨a0, ha0⟩ : ∃ a, a = x0 % N := ⟨_, rfl⟩
      have hmod : (x0 : Int).tmod (N : Int) = (a0 : Int) := by rw [ha0]; rfl
      have hal : a0 < N := by rw [ha0]; exact Nat.mod_lt _ (by have := HN12.out; omega)
      have hnz : ((N : Int) == 0) = false := by rw [beq_eq_false_iff_ne]; have := HN12.out; omega
      have hnz2 : ¬ N = 0 := by have := HN12.out; omega
      have hxw : IntKind.i64.wrap (x0 : Int) = (x0 : Int) := by rw [IntKind.wrap_i64]; omega
      have HAl := Lib.hid hal
      have HS := Lib.hid (show ∀ u, Below w7.heap.size w7 u → u.cell? ⟨bt, ot, none⟩ = some (.int .u8 (x0 : Nat)) ∧ u.cell? ⟨B7, 0, none⟩ = some (.int .i64 (N : Nat)) from fun u hu => ⟨cell_later hu hct, (HK7.out.below hu HK7.out.lt).cell 0⟩)
      have HBel := Lib.hid (Below.refl w7.heap.size w7)
      clear h3 ha0 hal hct hx0e err h0
      go_upto_region 10 with fail
      refine wp_region_held (S := fun w' => w'.cell? ⟨bt, ot, none⟩ = some (.int .u8 (x0 : Nat)) ∧ w'.cell? ⟨B7, 0, none⟩ = some (.int .i64 (N : Nat))) rfl ?_
      have hS0 := HS.out w7.drew (HBel.out.drew)
      change wpAnyH _ _ _ _ _ 8 _ _ w7.drew
      have HBe := Lib.hid (HBel.out.drew)
      refine heldA_take (i := 0) (v := .slice (some ⟨bt, ot, none⟩) lt.length rc) rfl rfl (by kernel_rfl) (by kernel_rfl) (by kernel_rfl) (fun _ _ _ h => h) (by rfl) (fun w hS => by obtain ⟨hS1, hS2⟩ := hS; go_simp) hS0 ?_
      simp only [List.setIfInBounds_toArray, List.set_cons_zero, List.set_cons_succ]
      refine heldA_take (i := 1) (v := .pointer (some ⟨bt, ot, none⟩)) rfl rfl (by kernel_rfl) (by kernel_rfl) (by kernel_rfl) (fun _ _ _ h => h) (by rfl) (fun w hS => by obtain ⟨hS1, hS2⟩ := hS; go_simp) hS0 ?_
      simp only [List.setIfInBounds_toArray, List.set_cons_zero, List.set_cons_succ]
      refine heldA_take (i := 2) (v := .int .u8 (x0 : Nat)) rfl rfl (by kernel_rfl) (by kernel_rfl) (by kernel_rfl) (fun _ _ _ h => h) (by rfl) (fun w hS => by obtain ⟨hS1, hS2⟩ := hS; go_simp) hS0 ?_
      simp only [List.setIfInBounds_toArray, List.set_cons_zero, List.set_cons_succ]
      refine heldA_take (i := 3) (v := .int .i64 (x0 : Nat)) rfl rfl (by kernel_rfl) (by kernel_rfl) (by kernel_rfl) (fun _ _ _ h => h) (by rfl) (fun w hS => by obtain ⟨hS1, hS2⟩ := hS; go_simp) hS0 ?_
      simp only [List.setIfInBounds_toArray, List.set_cons_zero, List.set_cons_succ]
      refine heldA_take (i := 4) (v := .pointer (some ⟨B7, 0, none⟩)) rfl rfl (by kernel_rfl) (by kernel_rfl) (by kernel_rfl) (fun _ _ _ h => h) (by rfl) (fun w hS => by obtain ⟨hS1, hS2⟩ := hS; go_simp) hS0 ?_
      simp only [List.setIfInBounds_toArray, List.set_cons_zero, List.set_cons_succ]
      refine heldA_take (i := 5) (v := .int .i64 (N : Nat)) rfl rfl (by kernel_rfl) (by kernel_rfl) (by kernel_rfl) (fun _ _ _ h => h) (by rfl) (fun w hS => by obtain ⟨hS1, hS2⟩ := hS; go_simp) hS0 ?_
      simp only [List.setIfInBounds_toArray, List.set_cons_zero, List.set_cons_succ]
      refine heldA_take (i := 6) (v := .int .i64 (a0 : Nat)) rfl rfl (by kernel_rfl) (by kernel_rfl) (by kernel_rfl) (fun _ _ _ h => h) (by rfl) (fun w hS => by obtain ⟨hS1, hS2⟩ := hS; go_simp) hS0 ?_
      simp only [List.setIfInBounds_toArray, List.set_cons_zero, List.set_cons_succ]
      refine heldA_take (i := 7) (v := .int .i64 (a0 : Nat)) rfl rfl (by kernel_rfl) (by kernel_rfl) (by kernel_rfl) (fun _ _ _ h => h) (by rfl) (fun w hS => by obtain ⟨hS1, hS2⟩ := hS; go_simp) hS0 ?_
      simp only [List.setIfInBounds_toArray, List.set_cons_zero, List.set_cons_succ]
      refine wpAnyH_done (by kernel_rfl) ?_ _
      have HD := Lib.hid (show a0 < N ∧ Below w7.heap.size w7 w7.drew from ⟨HAl.out, HBe.out⟩)
      clear HS HBel hS0 HBe hmod hnz hnz2 hxw
      go_wp2_with fail
      go_meet
      case rel => exact ⟨a0, rfl, HD⟩
  case rest =>
    obtain ⟨wd, hwd⟩ : ∃ u, u = wc := ⟨_, rfl⟩
    subst hwd
    obtain ⟨a0, rfl, HD⟩ := hcut
    have hkc := KpC.of_below HD.out.2
    have HNc := Lib.hid (HN7.out.keep hkc); have HKc := Lib.hid (HK7.out.below HD.out.2 HK7.out.lt); have HAc := Lib.hid (HA7.out.keep hkc); have HCc := Lib.hid (HCs.out.keep hkc); have HSc := Lib.hid (SlI_after HD.out.2 HSt7.out); have HBc := Lib.hid (HB7.out.next' HD.out.2)
    have HA0 := Lib.hid (show 0 ≤ (a0 : Int) ∧ (a0 : Int) < g.nodes by have := HD.out.1; have := HNn.out; omega)
    have HRf := Lib.hid (show g.arcs.length ≤ 1000000 by have := HGl.out.2; omega)
    clear hkc HN7 HK7 HA7 HCs HSt7 HSt HB7 HD
    go_upto_block 0 with fail
    go_cut [10, 12] from 13 (fun s10 s12 wx => ∃ (M l : List Int) (ma : Option Addr) (mc : Nat), s12 = .slice ma M.length mc ∧ s10 = .int .i64 (lastN (a0 : Int) l) ∧ Hid (wk g (a0 : Int) M = some l ∧ M.length ≤ 40 ∧ Below wd.heap.size wd wx ∧ SlX wx (.slice ma M.length mc) M))
    case first =>
      go_wp2_with fail
      go_loopw [10, 12, 13] (fun a o i wr => ∃ (k : Nat) (cur : Nat) (M : List Int) (vo : Value), a = .int .i64 (cur : Nat) ∧ vo = o ∧ i = .int .i64 k ∧ Hid (1 ≤ k ∧ k ≤ 41 ∧ M.length + 1 ≤ k ∧ (∃ l, wk g (a0 : Int) M = some l ∧ lastN (a0 : Int) l = (cur : Int)) ∧ (cur : Int) < g.nodes ∧ Below wd.heap.size wd wr ∧ wr.ownsRow wd.heap.size 3 1 vo M.length (M.flatMap inC))) (fun _ _ i _ => 42 - (intOf i).toNat)
      case atStart => exact ⟨1, a0, [], _, rfl, rfl, rfl, Lib.hid ⟨by omega, by omega, by simp, ⟨[], rfl, rfl⟩, HA0.out.2, Below.refl _ _, World.ownsRow_nil _ _ _ _⟩⟩
      case round =>
        obtain ⟨k, cur, M, vo, rfl, rfl, rfl, HI⟩ := hrel
        have hDone : ∃ (M' l' : List Int) (ma : Option Addr) (mc : Nat), vo = .slice ma M'.length mc ∧ (cur : Int) = lastN (a0 : Int) l' ∧ Hid (wk g (a0 : Int) M' = some l' ∧ M'.length ≤ 40 ∧ Below wd.heap.size wd wr ∧ SlX wr (.slice ma M'.length mc) M') := by
          obtain ⟨l, h1, h2⟩ := HI.out.2.2.2.1
          have hs := slX_own rfl HI.out.2.2.2.2.2.2
          obtain ⟨ma, mc, e, _⟩ := id hs
          subst e
          exact ⟨M, l, ma, mc, rfl, h2.symm, Lib.hid ⟨h1, by have := HI.out.2.1; have := HI.out.2.2.1; omega, HI.out.2.2.2.2.2.1, hs⟩⟩
        have HDone := Lib.hid hDone
        clear hDone
        obtain ⟨va, vn, vc, rfl⟩ := HI.out.2.2.2.2.2.2.one'
        have hkb : 1 ≤ k ∧ k ≤ 41 := ⟨HI.out.1, HI.out.2.1⟩
        by_cases hk : k < lt.length
        · have hkI : (k : Int) < (lt.length : Int) := by omega
          by_cases hk4 : k ≤ 40
          · have hk4I : (k : Int) ≤ 40 := by omega
            have HCo := Lib.hid (out_any n1 g (cur : Nat) wr (HNc.out.keep (KpC.of_below HI.out.2.2.2.2.2.1)) (rows_few HRf.out))
            obtain ⟨Q, hQ⟩ : ∃ Q, Q = rowV endF g (cur : Nat) := ⟨_, rfl⟩
            rw [← hQ] at HCo
            have HQ := Lib.hid hQ
            clear hQ
            go_wp2_with fail
            refine HCo.out.mono ?_
            rintro e w8 ⟨vq, rfl, hoq, hbq⟩
            have hsq : SlX w8 vq Q := slX_own rfl hoq
            obtain ⟨qa, qc, rfl, _⟩ := id hsq
            have HSq := Lib.hid hsq; have HBq := Lib.hid hbq
            clear hoq hbq hsq HCo
            by_cases hq0 : Q.length = 0
            · have hq0b : ((Q.length : Int) == 0) = true := by rw [hq0]; rfl
              have hQn : Q = [] := List.eq_nil_of_length_eq_zero hq0
              have HDn := Lib.hid (show ∃ (M' l' : List Int) (ma : Option Addr) (mc : Nat), Value.slice va vn vc = .slice ma M'.length mc ∧ (cur : Int) = lastN (a0 : Int) l' ∧ Hid (wk g (a0 : Int) M' = some l' ∧ M'.length ≤ 40 ∧ Below wd.heap.size wd w8 ∧ SlX w8 (.slice ma M'.length mc) M') from by
                obtain ⟨M', l', ma, mc, e1, e2, h⟩ := HDone.out
                exact ⟨M', l', ma, mc, e1, e2, Lib.hid ⟨h.out.1, h.out.2.1, h.out.2.2.1.next' HBq.out, h.out.2.2.2.keep (KpC.of_below HBq.out)⟩⟩)
              clear hq0
              go_wp2_with fail
              go_meet
              case rel =>
                obtain ⟨M', l', ma, mc, e1, e2, h⟩ := HDn.out
                exact ⟨M', l', ma, mc, e1, by rw [e2], h⟩
            · have hq0b : ((Q.length : Int) == 0) = false := by rw [beq_eq_false_iff_ne]; omega
              obtain ⟨x, hx⟩ : ∃ x, x = lt[k] := ⟨_, rfl⟩
              have hxr := HLt.out x (by rw [hx]; exact List.getElem_mem hk)
              obtain ⟨xn', hxn⟩ := Int.eq_ofNat_of_zero_le hxr.1
              obtain ⟨rra, rrc, err, _, _, h3⟩ := HSc.out
              obtain ⟨bt, ot, era, hct⟩ := h3 k hk
              obtain ⟨rfl, rfl⟩ : ra = rra ∧ rc = rrc := by simpa using err
              subst era
              rw [← hx, hxn] at hct
              have hct8 := cell_later (HI.out.2.2.2.2.2.1.next' HBq.out) hct
              obtain ⟨j, hj⟩ : ∃ j, j = xn' % Q.length := ⟨_, rfl⟩
              have hjl : j < Q.length := by rw [hj]; exact Nat.mod_lt _ (by omega)
              have hmod : (xn' : Int).tmod (Q.length : Int) = (j : Int) := by rw [hj]; rfl
              have hxw : IntKind.i64.wrap (xn' : Int) = (xn' : Int) := by rw [IntKind.wrap_i64]; omega
              obtain ⟨n, hn1, hn2, hn3⟩ := (rowV_mem endF (i := Q[j]) HI.out.2.2.2.2.1).1 (by rw [← HQ.out]; exact List.getElem_mem hjl)
              obtain ⟨bq, oq, rfl, hcq⟩ := HSq.out.at j hjl
              rw [hn1] at hcq
              obtain ⟨wa, hwa⟩ : ∃ u, u = w8.alloc (.cells #[.int .i64 (n : Nat)] 3) := ⟨_, rfl⟩
              have hba : Below w8.heap.size w8 wa := by rw [hwa]; exact (Below.refl _ _).alloc (Nat.le_refl _) _
              have hbra := HBq.out.next' hba
              obtain ⟨a2, n2, c2, w', hrun, ho, hgr, hat⟩ := push_intG wd.heap.size (.slice va vn vc) M (n : Nat) wa w8.heap.size (ownsRow_below HI.out.2.2.2.2.2.2 hbra) (by rw [hwa]; exact Blk.new _ _ _ _) (by have := HI.out.2.2.1; omega) (Nat.le_trans HI.out.2.2.2.2.2.1.size hbra.size)
              have hbw : Below wd.heap.size wd w' := (HI.out.2.2.2.2.2.1.next' hbra).grown hgr (Nat.le_trans HI.out.2.2.2.2.2.1.size hbra.size) (fun j ej => (ownsRow_blk' HI.out.2.2.2.2.2.2 ej).1)
              rw [hwa] at hrun
              obtain ⟨tn, htn⟩ := Int.eq_ofNat_of_zero_le (HOk.out.arc _ (List.getElem_mem hn2)).2.1.1
              have htl : (tn : Int) < g.nodes := by rw [← htn]; exact (HOk.out.arc _ (List.getElem_mem hn2)).2.1.2
              have c73 := (HKc.out.below hbw HKc.out.lt).cell 3
              simp only [List.getElem?_toArray, List.getElem?_cons_succ, List.getElem?_cons_zero] at c73
              obtain ⟨bz, oz, ez, _, z1, _⟩ := (HAc.out.keep (KpC.of_below hbw)).at n hn2
              subst ez
              rw [htn] at z1
              have HR' := Lib.hid hrun
              have HNew := Lib.hid (show 1 ≤ k + 1 ∧ k + 1 ≤ 41 ∧ (M ++ [(n : Int)]).length + 1 ≤ k + 1 ∧ (∃ l, wk g (a0 : Int) (M ++ [(n : Int)]) = some l ∧ lastN (a0 : Int) l = (tn : Int)) ∧ (tn : Int) < g.nodes ∧ Below wd.heap.size wd w' ∧ w'.ownsRow wd.heap.size 3 1 (.slice a2 n2 c2) (M ++ [(n : Int)]).length ((M ++ [(n : Int)]).flatMap inC) from by
                refine ⟨by omega, by omega, by have := HI.out.2.2.1; simp; omega, ?_, htl, hbw, ho⟩
                obtain ⟨l, h1, h2⟩ := HI.out.2.2.2.1
                refine ⟨l ++ [(tn : Int)], ?_, lastN_snoc _ _ _⟩
                rw [wk_snoc h1]
                have ea : arcI g (n : Nat) = some g.arcs[n] := by unfold arcI; rw [if_pos ⟨by omega, by omega⟩, Int.toNat_natCast, List.getElem?_eq_getElem hn2]
                rw [ea]
                dsimp only
                rw [if_pos (show g.arcs[n].1 = lastN (a0 : Int) l from hn3.trans h2.symm), htn])
              have hnI : (n : Int) < (g.arcs.length : Int) := by omega
              have hjI : (j : Int) < (Q.length : Int) := by omega
              have hQn : ¬ Q = [] := fun e => hq0 (by rw [e]; rfl)
              have hxb : (xn' : Int) < 256 := by omega
              clear hx h3 err hj hn1 hn3 hwa hba hbra ho hgr hat hbw htn htl hct hrun hxn hxr hq0
              go_wp2_with (at_builtin; refine wpList_append_run rfl _ _ _ _ rfl HR'.out ?_)
              go_roundw
              case rel => exact ⟨k + 1, tn, _, _, rfl, rfl, by go_num, HNew⟩
              case measure => simp [intOf]; omega
          · have hk4I : ¬ (k : Int) ≤ 40 := by omega
            go_wp2_with fail
            go_meet
            case rel =>
              obtain ⟨M', l', ma, mc, e1, e2, h⟩ := HDone.out
              exact ⟨M', l', ma, mc, e1, by rw [e2], h⟩
        · have hkI : ¬ (k : Int) < (lt.length : Int) := by omega
          go_wp2_with fail
          go_meet
          case rel =>
            obtain ⟨M', l', ma, mc, e1, e2, h⟩ := HDone.out
            exact ⟨M', l', ma, mc, e1, by rw [e2], h⟩
    case rest =>
      obtain ⟨M, l, ma, mc, rfl, rfl, HI⟩ := hcut
      have hl := wk_len HI.out.1
      obtain ⟨P, hP⟩ : ∃ P, P = (a0 : Int) :: l := ⟨_, rfl⟩
      have hPl : P.length = M.length + 1 := by rw [hP, List.length_cons, hl]
      obtain ⟨T, hT⟩ : ∃ T, T = lastN (a0 : Int) l := ⟨_, rfl⟩
      obtain ⟨e, he⟩ : ∃ e, e = ofV R T := ⟨_, rfl⟩
      have hkc := KpC.of_below HI.out.2.2.1
      have HNo := Lib.hid (nodes_isE (g := g) (s := (a0 : Int)) (L := M) (l := P) (by unfold nodesV; rw [if_pos HA0.out, HI.out.1, hP]; rfl) (by have := HI.out.2.1; omega) n1 (.slice ma M.length mc) wc (HNc.out.keep hkc) HI.out.2.2.2)
      rw [hPl] at HNo
      have hM40 : M.length ≤ 40 := HI.out.2.1
      have HW := Lib.hid (show wk g (a0 : Int) M = some l from HI.out.1)
      have HKd := Lib.hid (HKc.out.below HI.out.2.2.1 HKc.out.lt); have HNd := Lib.hid (HNc.out.keep hkc); have HAd := Lib.hid (HAc.out.keep hkc); have HCd := Lib.hid (HCc.out.keep hkc); have HBd := Lib.hid (HBc.out.next' HI.out.2.2.1)
      have HPe := Lib.hid (And.intro hP (And.intro hPl (And.intro hT (And.intro he hl))))
      rw [← hT]
      clear hl hP hPl hT he hkc HI HNc HKc HAc HCc HSc HBc
      go_wp2_with fail
      refine HNo.out.mono ?_
      rintro ee w8 ⟨na, nc, rfl, hs, hb⟩
      have hkc := KpC.of_below hb
      have HKe := Lib.hid (HKd.out.below hb HKd.out.lt); have HNe := Lib.hid (HNd.out.keep hkc); have HAe := Lib.hid (HAd.out.keep hkc); have HCe := Lib.hid (HCd.out.keep hkc); have HBe := Lib.hid (HBd.out.next' hb)
      have HPs := Lib.hid (show SlX w8 (.slice na P.length nc) P by rw [HPe.out.2.1]; exact hs)
      have HOf := Lib.hid (of_cell pc R mx T w8 HCe.out)
      rw [← HPe.out.2.2.2.1] at HOf
      have hw1 : IntKind.i64.wrap ((M.length : Int) + 1) = (M.length : Int) + 1 := wrap_small _ (by omega) (by omega)
      clear hs hb hkc HNo HKd HNd HAd HCd HBd
      go_wp2_with fail
      refine HOf.out.mono ?_
      rintro ee wq ⟨rfl, hwq⟩
      subst wq
      obtain ⟨Bd, hBd⟩ : ∃ l, l = brd g R e := ⟨_, rfl⟩
      have HBo := Lib.hid (border_is (g := g) (L := R) (R := Bd.map fun (i : Nat) => (i : Int)) (c := e) (by rw [borderV_brd, hBd]) HOk.out HRf.out (by have := HR.out.2; have := HN12.out; omega) (by have := HR.out.2; have := HNn.out; omega) HNe.out HCe.out)
      rw [List.length_map] at HBo
      have HBdE := Lib.hid hBd
      clear hBd HOf hw1
      go_wp2_with fail
      refine HBo.out.mono ?_
      rintro ee w9 ⟨da, dc, rfl, hs, hb⟩
      have hkc := KpC.of_below hb
      have HKf := Lib.hid (HKe.out.below hb HKe.out.lt); have HAf := Lib.hid (HAe.out.keep hkc); have HCf := Lib.hid (HCe.out.keep hkc); have HBf := Lib.hid (HBe.out.next' hb)
      have HPf := Lib.hid (HPs.out.keep hkc)
      have HDs := Lib.hid (show SlX w9 (.slice da (Bd.map fun (i : Nat) => (i : Int)).length dc) (Bd.map fun (i : Nat) => (i : Int)) by rw [List.length_map]; exact hs)
      have hBdl : Bd.length ≤ 12 := by
        have h1 : Bd.length ≤ R.length := by
          rw [HBdE.out]; unfold brd
          refine Nat.le_trans (List.length_filter_le _ _) ?_
          rw [List.length_range]; exact Nat.le_refl _
        have := HR.out.2; have := HN12.out; omega
      have hmk := fun u => run_make_ints (P := Tryd.prog) 30 3 .i64 8 Tryd.underlying30 infoInt N (by have := HN12.out; omega) (by have := HN12.out; omega) u
      have hNb : N ≤ 12 := HN12.out.2
      have e7 := HKf.out.cell 0
      simp only [List.getElem?_toArray, List.getElem?_cons_zero] at e7
      obtain ⟨wg, hwg⟩ : ∃ u, u = w9.alloc (.cells (icells .i64 (List.replicate N 0)) 3) := ⟨_, rfl⟩
      obtain ⟨B20, hB20⟩ : ∃ b, b = w9.heap.size := ⟨_, rfl⟩
      have hbg : Below w9.heap.size w9 wg := by rw [hwg]; exact (Below.refl _ _).alloc (Nat.le_refl _) _
      have hkg : Blk wg B20 (icells .i64 (setOnes (List.replicate N 0) (Bd.take 0))) 3 (0, 0) := by rw [hwg, hB20]; exact Blk.new _ _ _ _
      have HG := Lib.hid (And.intro hwg (And.intro hB20 (And.intro hbg hkg)))
      clear hs hb hkc hwg hB20 hbg hkg HBo HKe HNe HAe HCe HBe HPs
      go_wp2_with fail
      rw [← HG.out.1, ← HG.out.2.1]
      clear e7 hmk
      go_loopw [21] (fun i wr => ∃ k : Nat, k ≤ Bd.length ∧ i = .int .i64 k ∧ Hid (Below w9.heap.size w9 wr ∧ Blk wr B20 (icells .i64 (setOnes (List.replicate N 0) (Bd.take k))) 3 (0, 0))) (fun i _ => Bd.length - (intOf i).toNat)
      case atStart => exact ⟨0, by omega, rfl, Lib.hid ⟨HG.out.2.2.1, HG.out.2.2.2⟩⟩
      case round =>
        obtain ⟨k, hk, rfl, HI⟩ := hrel
        by_cases hlt : k < Bd.length
        · have hltI : (k : Int) < (Bd.length : Int) := by omega
          obtain ⟨v, hv⟩ : ∃ v, v = Bd[k] := ⟨_, rfl⟩
          have hvN : v < N := by
            have h1 : v ∈ brd g R e := by rw [← HBdE.out, hv]; exact List.getElem_mem hlt
            have := brd_lt h1; have := HR.out.2; omega
          have hvI : (v : Int) < (N : Int) := by omega
          obtain ⟨b, o, eo, q⟩ := (HDs.out.keep (KpC.of_below HI.out.1)).at k (by rw [List.length_map]; exact hlt)
          subst eo
          rw [List.getElem_map, ← hv] at q
          have hg0 : (setOnes (List.replicate N 0) (Bd.take k)).length = N := by rw [setOnes_len, List.length_replicate]
          obtain ⟨y, hy⟩ : ∃ y, y = (setOnes (List.replicate N 0) (Bd.take k))[v]'(by omega) := ⟨_, rfl⟩
          have q2 := HI.out.2.cell v
          rw [icells_get .i64 _ v (by omega), ← hy] at q2
          have qf := HI.out.2.free v (Or.inr (Nat.zero_le _))
          have HNew := Lib.hid (show Below w9.heap.size w9 (wr.setCell ⟨B20, v, none⟩ (.int .i64 1)) ∧ Blk (wr.setCell ⟨B20, v, none⟩ (.int .i64 1)) B20 (icells .i64 (setOnes (List.replicate N 0) (Bd.take (k + 1)))) 3 (0, 0) from by
            refine ⟨HI.out.1.setCell (p := ⟨B20, v, none⟩) (by rw [HG.out.2.1]; exact Nat.le_refl _) _, ?_⟩
            rw [List.take_succ_eq_append_getElem hlt, setOnes_snoc, ← hv]
            exact icells_blk_set HI.out.2 v 1)
          clear hv hg0 hy HI
          go_wp2_with fail
          go_roundw
          case rel => exact ⟨k + 1, by omega, by go_num, HNew⟩
          case measure => simp [intOf]; omega
        · obtain rfl : k = Bd.length := by omega
          have hk20 := HI.out.2
          rw [List.take_length] at hk20
          have hmk := fun u => run_make_ints (P := Tryd.prog) 30 3 .i64 8 Tryd.underlying30 infoInt N (by have := HN12.out; omega) (by have := HN12.out; omega) u
          have e7 := (HKf.out.below HI.out.1 HKf.out.lt).cell 0
          simp only [List.getElem?_toArray, List.getElem?_cons_zero] at e7
          obtain ⟨wh, hwh⟩ : ∃ u, u = wr.alloc (.cells (icells .i64 (List.replicate N 0)) 3) := ⟨_, rfl⟩
          obtain ⟨B22, hB22⟩ : ∃ b, b = wr.heap.size := ⟨_, rfl⟩
          have hbh : Below wr.heap.size wr wh := by rw [hwh]; exact (Below.refl _ _).alloc (Nat.le_refl _) _
          have hk22 : Blk wh B22 (icells .i64 (setOnes (List.replicate N 0) (ins R e (g.arcs.take 0)))) 3 (0, 0) := by rw [hwh, hB22]; exact Blk.new _ _ _ _
          have HH := Lib.hid (And.intro hwh (And.intro hB22 (And.intro (HI.out.1.next' hbh) (And.intro (hk20.below hbh hk20.lt) hk22))))
          have H22 := Lib.hid (show B20 ≠ B22 ∧ w9.heap.size ≤ B22 from ⟨by have := hk20.lt; omega, by have := HI.out.1.size; omega⟩)
          clear hk20 hwh hB22 hbh hk22 HI HG
          go_wp2_with fail
          rw [← HH.out.1, ← HH.out.2.1]
          clear e7 hmk
          go_loopw [23] (fun i wr => ∃ k : Nat, k ≤ g.arcs.length ∧ i = .int .i64 k ∧ Hid (Below w9.heap.size w9 wr ∧ Blk wr B20 (icells .i64 (setOnes (List.replicate N 0) Bd)) 3 (0, 0) ∧ Blk wr B22 (icells .i64 (setOnes (List.replicate N 0) (ins R e (g.arcs.take k)))) 3 (0, 0))) (fun i _ => g.arcs.length - (intOf i).toNat)
          case atStart => exact ⟨0, by omega, rfl, Lib.hid ⟨HH.out.2.2.1, HH.out.2.2.2.1, HH.out.2.2.2.2⟩⟩
          case round =>
            obtain ⟨k, hk, rfl, HJ⟩ := hrel
            have e73 := (HKf.out.below HJ.out.1 HKf.out.lt).cell 3
            simp only [List.getElem?_toArray, List.getElem?_cons_succ, List.getElem?_cons_zero] at e73
            by_cases hlt : k < g.arcs.length
            · have hltI : (k : Int) < (g.arcs.length : Int) := by omega
              have hkb : k ≤ 100 := by have := HGl.out.2; omega
              have hins := ins_succ R e hlt
              obtain ⟨x, hx⟩ : ∃ x, x = g.arcs[k] := ⟨_, rfl⟩
              have hends := HOk.out.arc _ (List.getElem_mem hlt)
              obtain ⟨b, o, eo, d0, d1, d2⟩ := (HAf.out.keep (KpC.of_below HJ.out.1)).at k hlt
              subst eo
              rw [← hx] at d0 d1 d2 hends hins
              obtain ⟨x0, x1, x2⟩ := x
              dsimp only at d0 d1 d2 hends hins
              obtain ⟨t, ht⟩ := Int.eq_ofNat_of_zero_le hends.2.1.1
              subst ht
              have htN : t < N := by have h : (t : Int) < g.nodes := hends.2.1.2; have := HNn.out; omega
              have htI : (t : Int) < (N : Int) := by omega
              obtain ⟨wa, hwa⟩ : ∃ u, u = wr.alloc (.cells #[.int .i64 x0, .int .i64 (t : Nat), .int .i64 x2] 45) := ⟨_, rfl⟩
              obtain ⟨B24, hB24⟩ : ∃ b, b = wr.heap.size := ⟨_, rfl⟩
              have hba : Below wr.heap.size wr wa := by rw [hwa]; exact (Below.refl _ _).alloc (Nat.le_refl _) _
              have k24 : Blk wa B24 #[.int .i64 x0, .int .i64 (t : Nat), .int .i64 x2] 45 (0, 0) := by rw [hwa, hB24]; exact Blk.new _ _ _ _
              have k20 := HJ.out.2.1.below hba HJ.out.2.1.lt
              have k22 := HJ.out.2.2.below hba HJ.out.2.2.lt
              have hb9 := HJ.out.1.next' hba
              have e0 := k24.cell 0; have e1 := k24.cell 1
              simp only [List.getElem?_toArray, List.getElem?_cons_succ, List.getElem?_cons_zero] at e0 e1
              have HCa := Lib.hid (of_cell pc R mx (t : Nat) wa (HCf.out.keep (KpC.of_below hb9)))
              have HCb := Lib.hid (of_cell pc R mx x0 wa (HCf.out.keep (KpC.of_below hb9)))
              have hint : intoH R e (x0, (t : Int), x2) = (decide (ofV R (t : Nat) = e) && decide (ofV R x0 ≠ e)) := rfl
              obtain ⟨o1, ho1⟩ : ∃ o, o = ofV R (t : Nat) := ⟨_, rfl⟩
              obtain ⟨o2, ho2⟩ : ∃ o, o = ofV R x0 := ⟨_, rfl⟩
              rw [← ho1, ← ho2] at hint
              rw [← ho1] at HCa; rw [← ho2] at HCb
              have HWa := Lib.hid (And.intro hwa hB24); have HKs := Lib.hid (And.intro hb9 (And.intro k20 k22)); have HIn := Lib.hid (And.intro hins hint)
              clear hins hx hends hwa hB24 hba k24 k20 k22 hb9 HJ hint ho1 ho2
              by_cases h1 : o1 = e
              · have hb1 : (o1 == e) = true := by rw [h1]; simp
                by_cases h2 : o2 = e
                · have hb2 : (o2 == e) = true := by rw [h2]; simp
                  have HNew := Lib.hid (show Below w9.heap.size w9 wa ∧ Blk wa B20 (icells .i64 (setOnes (List.replicate N 0) Bd)) 3 (0, 0) ∧ Blk wa B22 (icells .i64 (setOnes (List.replicate N 0) (ins R e (g.arcs.take (k + 1))))) 3 (0, 0) from by
                    refine ⟨HKs.out.1, HKs.out.2.1, ?_⟩
                    have hi : intoH R e (x0, (t : Int), x2) = false := by rw [HIn.out.2]; simp [h2]
                    rw [HIn.out.1, hi]
                    simpa using HKs.out.2.2)
                  clear HKs HIn
                  go_wp2_with fail
                  rw [← HWa.out.1, ← HWa.out.2]
                  refine HCa.out.mono ?_
                  rintro ee wq ⟨rfl, hwq⟩
                  subst wq
                  go_wp2_with fail
                  refine HCb.out.mono ?_
                  rintro ee wq ⟨rfl, hwq⟩
                  subst wq
                  go_wp2_with fail
                  go_roundw
                  case rel => exact ⟨k + 1, by omega, by go_num, HNew⟩
                  case measure => simp [intOf]; omega
                · have hb2 : (o2 == e) = false := by rw [beq_eq_false_iff_ne]; exact h2
                  have hg0 : (setOnes (List.replicate N 0) (ins R e (g.arcs.take k))).length = N := by rw [setOnes_len, List.length_replicate]
                  obtain ⟨y, hy⟩ : ∃ y, y = (setOnes (List.replicate N 0) (ins R e (g.arcs.take k)))[t]'(by omega) := ⟨_, rfl⟩
                  have q2 := HKs.out.2.2.cell t
                  rw [icells_get .i64 _ t (by omega), ← hy] at q2
                  have qf := HKs.out.2.2.free t (Or.inr (Nat.zero_le _))
                  have HNew := Lib.hid (show Below w9.heap.size w9 (wa.setCell ⟨B22, t, none⟩ (.int .i64 1)) ∧ Blk (wa.setCell ⟨B22, t, none⟩ (.int .i64 1)) B20 (icells .i64 (setOnes (List.replicate N 0) Bd)) 3 (0, 0) ∧ Blk (wa.setCell ⟨B22, t, none⟩ (.int .i64 1)) B22 (icells .i64 (setOnes (List.replicate N 0) (ins R e (g.arcs.take (k + 1))))) 3 (0, 0) from by
                    refine ⟨HKs.out.1.setCell (p := ⟨B22, t, none⟩) H22.out.2 _, HKs.out.2.1.setOther _ _ H22.out.1, ?_⟩
                    have hi : intoH R e (x0, (t : Int), x2) = true := by rw [HIn.out.2]; simp [h1, h2]
                    rw [HIn.out.1, hi, if_pos rfl, Int.toNat_natCast, setOnes_snoc]
                    exact icells_blk_set HKs.out.2.2 t 1)
                  clear HKs HIn hg0 hy
                  go_wp2_with fail
                  rw [← HWa.out.1, ← HWa.out.2]
                  refine HCa.out.mono ?_
                  rintro ee wq ⟨rfl, hwq⟩
                  subst wq
                  go_wp2_with fail
                  refine HCb.out.mono ?_
                  rintro ee wq ⟨rfl, hwq⟩
                  subst wq
                  go_wp2_with fail
                  go_roundw
                  case rel => exact ⟨k + 1, by omega, by go_num, HNew⟩
                  case measure => simp [intOf]; omega
              · have hb1 : (o1 == e) = false := by rw [beq_eq_false_iff_ne]; exact h1
                have HNew := Lib.hid (show Below w9.heap.size w9 wa ∧ Blk wa B20 (icells .i64 (setOnes (List.replicate N 0) Bd)) 3 (0, 0) ∧ Blk wa B22 (icells .i64 (setOnes (List.replicate N 0) (ins R e (g.arcs.take (k + 1))))) 3 (0, 0) from by
                  refine ⟨HKs.out.1, HKs.out.2.1, ?_⟩
                  have hi : intoH R e (x0, (t : Int), x2) = false := by rw [HIn.out.2]; simp [h1]
                  rw [HIn.out.1, hi]
                  simpa using HKs.out.2.2)
                clear HKs HIn HCb
                go_wp2_with fail
                rw [← HWa.out.1, ← HWa.out.2]
                refine HCa.out.mono ?_
                rintro ee wq ⟨rfl, hwq⟩
                subst wq
                go_wp2_with fail
                go_roundw
                case rel => exact ⟨k + 1, by omega, by go_num, HNew⟩
                case measure => simp [intOf]; omega
            · obtain rfl : k = g.arcs.length := by omega
              have hk22 := HJ.out.2.2
              rw [List.take_length] at hk22
              have HE := Lib.hid (And.intro HJ.out.1 (And.intro HJ.out.2.1 hk22))
              clear hk22 HJ HH
              go_wp2_with fail
              clear e73
              go_loopw [25, 26, 27] (fun lv bv iv wr => ∃ k : Nat, k ≤ M.length + 1 ∧ lv = .int .i64 (lastB R e P k) ∧ bv = .bool (decide (0 ≤ lastB R e P k)) ∧ iv = .int .i64 k ∧ Hid (Below w9.heap.size w9 wr ∧ Blk wr B20 (icells .i64 (setOnes (List.replicate N 0) Bd)) 3 (0, 0) ∧ Blk wr B22 (icells .i64 (setOnes (List.replicate N 0) (ins R e g.arcs))) 3 (0, 0))) (fun _ _ iv _ => M.length + 1 - (intOf iv).toNat)
              case atStart => exact ⟨0, by omega, rfl, rfl, rfl, HE⟩
              case round =>
                obtain ⟨k, hk, rfl, rfl, rfl, HJ⟩ := hrel
                by_cases hlt : k < M.length + 1
                · have hltI : (k : Int) < (M.length : Int) + 1 := by omega
                  have hkP : k < P.length := by rw [HPe.out.2.1]; exact hlt
                  obtain ⟨b, o, eo, q⟩ := (HPf.out.keep (KpC.of_below HJ.out.1)).at k hkP
                  subst eo
                  have hgd : P[k]?.getD 0 = P[k] := by rw [List.getElem?_eq_getElem hkP]; rfl
                  have hlb : lastB R e P (k + 1) = if ofV R (P[k]?.getD 0) ≠ e then (k : Int) else lastB R e P k := rfl
                  obtain ⟨x, hx⟩ : ∃ x, x = P[k] := ⟨_, rfl⟩
                  rw [← hx] at hgd q
                  rw [hgd] at hlb
                  have HCa := Lib.hid (of_cell pc R mx x wr (HCf.out.keep (KpC.of_below HJ.out.1)))
                  obtain ⟨o1, ho1⟩ : ∃ o, o = ofV R x := ⟨_, rfl⟩
                  rw [← ho1] at HCa hlb
                  obtain ⟨z, hz⟩ : ∃ z, z = lastB R e P k := ⟨_, rfl⟩
                  rw [← hz] at hlb ⊢
                  have HLb := Lib.hid hlb
                  clear hgd hlb hx ho1 hz
                  by_cases h1 : o1 = e
                  · have hb1 : (o1 == e) = true := by rw [h1]; simp
                    go_wp2_with fail
                    refine HCa.out.mono ?_
                    rintro ee wq ⟨rfl, hwq⟩
                    subst wq
                    go_wp2_with fail
                    go_roundw
                    case rel => exact ⟨k + 1, by omega, by rw [HLb.out, if_neg (by simp [h1])], by rw [HLb.out, if_neg (by simp [h1])], by go_num, HJ⟩
                    case measure => simp [intOf]; omega
                  · have hb1 : (o1 == e) = false := by rw [beq_eq_false_iff_ne]; exact h1
                    go_wp2_with fail
                    refine HCa.out.mono ?_
                    rintro ee wq ⟨rfl, hwq⟩
                    subst wq
                    go_wp2_with fail
                    go_roundw
                    case rel => exact ⟨k + 1, by omega, by rw [HLb.out, if_pos h1], by rw [HLb.out, if_pos h1, decide_eq_true (by omega)], by go_num, HJ⟩
                    case measure => simp [intOf]; omega
                · obtain rfl : k = M.length + 1 := by omega
                  have hRN : (R.length : Int) = g.nodes := by have := HR.out.2; have := HNn.out; omega
                  have hA : setOnes (List.replicate N 0) Bd = setOnes (List.replicate N 0) (ins R e g.arcs) := setOnes_same (fun j hj => by rw [HBdE.out]; exact brd_ins HOk.out hRN j (by have := HR.out.2; omega))
                  have HRs := Lib.hid (rows_is hA (icells_slX (n := N) (by rw [setOnes_len, List.length_replicate]) (by omega) HJ.out.2.1) (icells_slX (n := N) (by rw [setOnes_len, List.length_replicate]) (by omega) HJ.out.2.2))
                  have hrg := lastB_range R e P (M.length + 1)
                  have hen : ∀ n : Nat, lastB R e P (M.length + 1) = (n : Int) → n < M.length ∧ ∃ v : Nat, P[n + 1]? = some (v : Int) ∧ v < N ∧ v ∈ Bd := fun n hn => by
                    obtain ⟨hP, _, hT, he, hl⟩ := HPe.out
                    rw [hT] at he
                    rw [hP, ← hl] at hn
                    obtain ⟨h1, v, h2, h3, h4⟩ := enters HOk.out hRN HW.out he.symm hn
                    exact ⟨by omega, v, by rw [hP]; exact h2, by have := HR.out.2; omega, by rw [HBdE.out]; exact h4⟩
                  obtain ⟨z, hz⟩ : ∃ z, z = lastB R e P (M.length + 1) := ⟨_, rfl⟩
                  rw [← hz] at hrg hen ⊢
                  have HHn := Lib.hid hen
                  clear hA hen hz
                  by_cases h0 : 0 ≤ z
                  · obtain ⟨n, hn⟩ := Int.eq_ofNat_of_zero_le h0
                    subst hn
                    obtain ⟨hnM, v, hv1, hv2, hv3⟩ := HHn.out n rfl
                    have hn1I : (n : Int) + 1 < (M.length : Int) + 1 := by omega
                    have hvI : (v : Int) < (N : Int) := by omega
                    have hw1 : IntKind.i64.wrap ((n : Int) + 1) = (n : Int) + 1 := wrap_small _ (by omega) (by omega)
                    go_wp2_with fail
                    refine HRs.out.mono ?_
                    rintro ee wz ⟨rfl, hb⟩
                    obtain ⟨hn2, hv⟩ := List.getElem?_eq_some_iff.1 hv1
                    have hb9 := HJ.out.1.next' hb
                    obtain ⟨b, o, eo, q⟩ := (HPf.out.keep (KpC.of_below hb9)).at (n + 1) hn2
                    subst eo
                    rw [hv] at q
                    have q2 := (HJ.out.2.1.below hb HJ.out.2.1.lt).cell v
                    rw [icells_at, setOnes_get _ _ v (by simpa using hv2), if_pos hv3] at q2
                    change wz.cell? ⟨B20, v, none⟩ = some (.int .i64 1) at q2
                    have HBz := Lib.hid (HBf.out.next' hb9)
                    clear hv hv1 hb9 hb HJ HRs HHn
                    go_wp2_with fail
                    go_ret
                    exact ⟨rfl, HBz.out⟩
                  · go_wp2_with fail
                    refine HRs.out.mono ?_
                    rintro ee wz ⟨rfl, hb⟩
                    have HBz := Lib.hid (HBf.out.next' (HJ.out.1.next' hb))
                    clear hb HJ HRs HHn
                    go_wp2_with fail
                    go_ret
                    exact ⟨rfl, HBz.out⟩
end Go.Proofs.YtjobijmmjebpaaaDoor
/- CellEnters: its arguments read. -/
namespace Go.Proofs.YtjobijmmjebpaaaDoor
open Go.RowKit
theorem cellEnters_rd (v0 v1 v2 : Value) (W : World) (R0 : Rd Tryd.prog W 22 [v0]) (R1 : Rd Tryd.prog W 22 [v1]) (R2 : Rd Tryd.prog W 22 [v2]) (hg : HG W) : Calls Tryd.prog 6 #[v0, v1, v2] W fun e w' => e = .returned (.bool true) ∧ Below W.heap.size W w' := by
  obtain ⟨A, hA, _⟩ := Rd.ints (k := .u8) Tryd.underlying22 Tryd.underlying5 (by kernel_rfl) R0
  obtain ⟨B, hB, hw⟩ := Rd.ints (k := .u8) Tryd.underlying22 Tryd.underlying5 (by kernel_rfl) R1
  obtain ⟨C, hC, hw2⟩ := Rd.ints (k := .u8) Tryd.underlying22 Tryd.underlying5 (by kernel_rfl) R2
  exact cellEnters_any v0 v1 v2 A B C W hA hB hC (fun b hb => by
    have : 0 ≤ b ∧ b ≤ 255 := by simpa [Lit.wf, IntKind.min, IntKind.max, IntKind.signed, IntKind.bits] using hw b hb
    omega) (fun b hb => by
    have : 0 ≤ b ∧ b ≤ 255 := by simpa [Lit.wf, IntKind.min, IntKind.max, IntKind.signed, IntKind.bits] using hw2 b hb
    omega) hg
end Go.Proofs.YtjobijmmjebpaaaDoor
