/- Texts of the law GridOrder, merged: GridOrdP, GridOrder, GrRead, GridOrderL. -/
import Derived.Test.YtlddcnkiigamjaaDoorPGridKnown13
import Derived.Deep.Cut
import Derived.Deep.CutRange
import Derived.Deep.CutBlock
import Derived.BigQuiet
import Derived.Deep.QuietTactic
import Derived.WalkSmall
import Derived.Test.YtlddcnkiigamjaaDoorPGridKnown01
import Derived.Test.YtlddcnkiigamjaaDoorPGridKnown00
/- GridOrder, in plain words: which cells nodes are in. -/
namespace Go.Proofs.YtlddcnkiigamjaaDoor
open Go.RowKit
/-- nodes' places and cells -/
structure OrdF (N R C : Nat) (xf yf lf rf cf : Nat → Int) : Prop where
  hl : ∀ k, k < N → lf k = rf k * C + cf k ∧ (0 ≤ rf k ∧ rf k < R) ∧ (0 ≤ cf k ∧ cf k < C)
  mx : ∀ u v, u < N → v < N → xf u ≤ xf v → cf u ≤ cf v
  my : ∀ u v, u < N → v < N → yf u ≤ yf v → rf u ≤ rf v
  fst : ∀ v, v < N → (∀ u, u < N → xf v ≤ xf u) → cf v = 0
  lst : ∀ v, v < N → (∀ u, u < N → xf u ≤ xf v) → (¬ ∀ u, u < N → xf v ≤ xf u) → 2 ≤ C → 1 ≤ cf v
theorem ordF_of (X Y : List Int) (c R C : Nat) (hS : ShapeOf c R C) : (mapNet (placedV X Y) R C).length = placedN X Y ∧ (placedV X Y).X.length = placedN X Y ∧ (placedV X Y).Y.length = placedN X Y ∧
    ∃ rf cf, OrdF (placedN X Y) R C (fun k => (placedV X Y).X[k]?.getD 0) (fun k => (placedV X Y).Y[k]?.getD 0) (fun k => (mapNet (placedV X Y) R C)[k]?.getD 0) rf cf := by
  obtain ⟨g, hg⟩ : ∃ g, g = placedV X Y := ⟨_, rfl⟩
  obtain ⟨N, hN⟩ : ∃ N, N = placedN X Y := ⟨_, rfl⟩
  rw [← hg, ← hN]
  have hNn : g.nodes.toNat = N := by rw [hg, hN]; rfl
  have hx : g.X.length = N := by rw [hg, hN]; simp [placedV]
  have hy : g.Y.length = N := by rw [hg, hN]; simp [placedV]
  have hSf := hS.facts
  have hfx : ∀ k, k < N → atI g.X (k : Nat) = g.X[k]?.getD 0 := fun k hk => by unfold atI; rw [if_pos (by omega)]; rfl
  have hfy : ∀ k, k < N → atI g.Y (k : Nat) = g.Y[k]?.getD 0 := fun k hk => by unfold atI; rw [if_pos (by omega)]; rfl
  have hm : mapNet g R C = (List.finRange N).map fun (k : Fin N) => cellOf (endsV ((List.finRange N).map fun (k : Fin N) => atI g.X (k : Nat))) (endsV ((List.finRange N).map fun (k : Fin N) => atI g.Y (k : Nat))) R C (atI g.X (k : Nat), atI g.Y (k : Nat)) := by
    unfold mapNet
    rw [hNn]
    rfl
  obtain ⟨ex, hex⟩ : ∃ e, e = endsV ((List.finRange N).map fun (k : Fin N) => atI g.X (k : Nat)) := ⟨_, rfl⟩
  obtain ⟨ey, hey⟩ : ∃ e, e = endsV ((List.finRange N).map fun (k : Fin N) => atI g.Y (k : Nat)) := ⟨_, rfl⟩
  rw [← hex, ← hey] at hm
  have inx : ∀ k, k < N → (ex.getD (0, 0)).1 ≤ g.X[k]?.getD 0 ∧ g.X[k]?.getD 0 ≤ (ex.getD (0, 0)).2 ∧ (∃ i, i < N ∧ g.X[i]?.getD 0 = (ex.getD (0, 0)).1) ∧ (∃ i, i < N ∧ g.X[i]?.getD 0 = (ex.getD (0, 0)).2) := fun k hk => by
    have h := ends_in (L := (List.finRange N).map fun (k : Fin N) => atI g.X (k : Nat)) (x := atI g.X (k : Nat)) (List.mem_map.2 ⟨⟨k, hk⟩, List.mem_finRange _, rfl⟩)
    rw [← hex, hfx k hk] at h
    obtain ⟨h1, h2, h3, h4⟩ := h
    obtain ⟨i, _, e3⟩ := List.mem_map.1 h3
    obtain ⟨j, _, e4⟩ := List.mem_map.1 h4
    rw [hfx i i.2] at e3; rw [hfx j j.2] at e4
    exact ⟨h1, h2, ⟨i, i.2, e3⟩, ⟨j, j.2, e4⟩⟩
  have iny : ∀ k, k < N → (ey.getD (0, 0)).1 ≤ g.Y[k]?.getD 0 ∧ g.Y[k]?.getD 0 ≤ (ey.getD (0, 0)).2 := fun k hk => by
    have h := ends_in (L := (List.finRange N).map fun (k : Fin N) => atI g.Y (k : Nat)) (x := atI g.Y (k : Nat)) (List.mem_map.2 ⟨⟨k, hk⟩, List.mem_finRange _, rfl⟩)
    rw [← hey, hfy k hk] at h
    exact ⟨h.1, h.2.1⟩
  refine ⟨by rw [hm]; simp, hx, hy, fun k => partV (ey.getD (0, 0)).1 (ey.getD (0, 0)).2 R (g.Y[k]?.getD 0), fun k => partV (ex.getD (0, 0)).1 (ex.getD (0, 0)).2 C (g.X[k]?.getD 0), fun k hk => ?_, fun u v hu hv h => ?_, fun u v hu hv h => ?_, fun v hv h => ?_, fun v hv h1 h2 h3 => ?_⟩
  · have h1 := inx k hk; have h2 := iny k hk
    refine ⟨?_, part_range ⟨h2.1, h2.2⟩ (by have := hS.pos; omega), part_range ⟨h1.1, h1.2.1⟩ (by omega)⟩
    rw [hm, List.getElem?_map, List.getElem?_eq_getElem (by simpa using hk)]
    simp only [Option.map_some, Option.getD_some, List.getElem_finRange, cellOf]
    rw [← hfx k hk, ← hfy k hk]
    rfl
  · have h1 := inx u hu; exact part_mono (by omega) (by omega) h
  · have h1 := iny u hu; exact part_mono (by omega) (by have := hS.pos; omega) h
  · obtain ⟨h1, _, ⟨i, hi, e⟩, _⟩ := inx v hv
    have := h i hi
    show partV _ _ _ _ = 0
    rw [show g.X[v]?.getD 0 = (ex.getD (0, 0)).1 by omega]
    exact part_least _ _ _
  · obtain ⟨_, g2, _, ⟨j, hj, ej⟩⟩ := inx v hv
    have q1 := h1 j hj
    show 1 ≤ partV _ _ _ _
    have hv2 : g.X[v]?.getD 0 = (ex.getD (0, 0)).2 := by omega
    rw [hv2]
    refine part_most ?_ (by omega)
    rcases Int.lt_or_le (ex.getD (0, 0)).1 (ex.getD (0, 0)).2 with q | q
    · exact q
    · exact absurd (fun u hu => by have := inx u hu; omega) h2
/-- whether all of the first k are so -/
def allK (p : Nat → Bool) (k : Nat) : Bool := (List.range k).all p
theorem allK_succ (p : Nat → Bool) (k : Nat) : allK p (k + 1) = (allK p k && p k) := by unfold allK; rw [List.range_succ, List.all_append]; simp
theorem allK_true {p : Nat → Bool} {k : Nat} (h : allK p k = true) : ∀ u, u < k → p u = true := fun u hu => List.all_eq_true.1 h u (List.mem_range.2 hu)
theorem allK_false {p : Nat → Bool} {k : Nat} (h : allK p k = false) : ¬ ∀ u, u < k → p u = true := fun hh => by
  have : allK p k = true := List.all_eq_true.2 fun u hu => hh u (List.mem_range.1 hu)
  rw [h] at this; cases this
theorem slX_cells {w : World} {a : Option Addr} {n cap : Nat} {L : List Int} (h : SlX w (.slice a n cap) L) (hl : 0 < L.length) : ∃ b o, a = some ⟨b, o, none⟩ ∧ ∀ k, k < L.length → w.cell? ⟨b, o + k, none⟩ = some (.int .i64 (L[k]?.getD 0)) := by
  obtain ⟨b, o, e, _⟩ := h.at 0 hl
  refine ⟨b, o, e, fun k hk => ?_⟩
  obtain ⟨b', o', e', hc⟩ := h.at k hk
  obtain ⟨rfl, rfl⟩ : b = b' ∧ o = o' := by rw [e] at e'; simpa using e'
  rw [hc, List.getElem?_eq_getElem hk]; rfl
end Go.Proofs.YtlddcnkiigamjaaDoor
/- GridOrder, its walk. -/
namespace Go.Proofs.YtlddcnkiigamjaaDoor
open Go.RowKit
set_option maxRecDepth 100000 in
set_option maxHeartbeats 16000000 in
theorem gridOrder_any (va vb : Value) (X Y : List Int) (c0 : Nat) (w : World) (hx : SlX w va X) (hy : SlX w vb Y) (hc0 : c0 < 256) (hg : HG w) : Calls Tryd.prog 3 #[va, vb, .int .u8 (c0 : Nat)] w fun e w' => e = .returned (.bool true) ∧ Below w.heap.size w w' := by
  have HX := Lib.hid hx; have HY := Lib.hid hy; have HG0 := Lib.hid hg
  obtain ⟨ax, axc, rfl, _⟩ := hx
  obtain ⟨ay, ayc, rfl, _⟩ := hy
  clear hg
  obtain ⟨c, hc⟩ : ∃ c, c = 1 + c0 := ⟨_, rfl⟩
  have hcb : 1 ≤ c ∧ c ≤ 256 := by omega
  have wc1 : IntKind.i64.wrap (c0 : Int) = (c0 : Int) := by rw [IntKind.wrap_i64]; omega
  have wc2 : IntKind.i64.wrap (1 + (c0 : Int)) = (c : Int) := by rw [IntKind.wrap_i64]; omega
  have wc3 : (1 : Int) + (c0 : Int) = (c : Int) := by omega
  have hn := placedN_le X Y
  obtain ⟨N, hN⟩ : ∃ N, N = placedN X Y := ⟨_, rfl⟩
  rw [← hN] at hn
  have HN := Lib.hid hN
  clear hc hN
  go_enter Tryd.func3, Tryd.ntmps3
  go_wp2_with fail
  refine (works21_any w HG0.out).mono ?_
  rintro e w1 ⟨rfl, hb1⟩
  have HB1 := Lib.hid hb1
  have HCp := Lib.hid (placed_any _ _ X Y w1 (HX.out.keep (KpC.of_below hb1)) (HY.out.keep (KpC.of_below hb1)))
  clear hb1
  go_wp2_with fail
  refine HCp.out.mono ?_
  rintro e w2 ⟨v, rfl, hr, hb⟩
  have HB2 := Lib.hid (HB1.out.next' hb)
  have hraw := hr.raw
  have HR := Lib.hid hraw
  obtain ⟨ux, uy, uz, rfl, hsx, hsy, hsz⟩ := hraw
  have hV : (placedV X Y).nodes = (N : Int) := by rw [HN.out]; rfl
  rw [hV]
  have HV := Lib.hid hV
  obtain ⟨xa, xn, xc, rfl⟩ := hsx.form; obtain ⟨ya, yn, yc, rfl⟩ := hsy.form; obtain ⟨za, zn, zc, rfl⟩ := hsz.form
  obtain ⟨B7, hB7⟩ : ∃ b, b = w2.heap.size := ⟨_, rfl⟩
  obtain ⟨w3, hw3⟩ : ∃ u, u = w2.alloc (.cells #[.int .i64 (N : Nat), .slice xa xn xc, .slice ya yn yc, .slice za zn zc] 26) := ⟨_, rfl⟩
  have hb3 : Below w2.heap.size w2 w3 := by rw [hw3]; exact (Below.refl _ _).alloc (Nat.le_refl _) _
  have K7 : Blk w3 B7 #[.int .i64 (N : Nat), .slice xa xn xc, .slice ya yn yc, .slice za zn zc] 26 (0, 0) := by rw [hw3, hB7]; exact Blk.new _ _ _ _
  have c0' := K7.cell 0; have c1' := K7.cell 1; have c2' := K7.cell 2; have c3' := K7.cell 3
  simp only [List.getElem?_toArray, List.getElem?_cons_succ, List.getElem?_cons_zero] at c0' c1' c2' c3'
  have HCn := Lib.hid (new_placed _ X Y w3 (HG0.out.later (HB2.out.next' hb3)) (HR.out.below hb3))
  rw [hV] at HCn
  have HB3 := Lib.hid (HB2.out.next' hb3); have HW3 := Lib.hid hw3; have HK7 := Lib.hid K7; have HE7 := Lib.hid hB7
  have HSx := Lib.hid (show SlX w3 _ _ from hsx.keep (KpC.of_below hb3)); have HSy := Lib.hid (show SlX w3 _ _ from hsy.keep (KpC.of_below hb3))
  clear hr hb hsx hsy hsz hV hw3 hb3 K7 HR HCp HX HY
  go_wp2_with fail
  rw [← HW3.out, ← HE7.out]
  clear hB7
  clear c0' c1' c2' c3'
  refine HCn.out.mono ?_
  rintro e w4 ⟨p, rfl, hn4, hb4⟩
  have HB4 := Lib.hid (HB3.out.next' hb4)
  have HNt := Lib.hid hn4
  have k7 := HK7.out.below hb4 HK7.out.lt
  have HK7' := Lib.hid k7; have HSx' := Lib.hid (HSx.out.keep (KpC.of_below hb4)); have HSy' := Lib.hid (HSy.out.keep (KpC.of_below hb4))
  clear hn4 hb4 k7 HCn HW3 HE7 HK7 HSx HSy
  have HK7 := HK7'; have HSx := HSx'; have HSy := HSy'
  clear HK7' HSx' HSy'
  go_wp2_with fail
  refine (shape_any c hcb w4).mono ?_
  rintro e w5 ⟨R, C, rfl, hS, hb5⟩
  have HS := Lib.hid hS
  have HB5 := Lib.hid (HB4.out.next' hb5)
  have HCm := Lib.hid (map_net p (placedV X Y) c hcb (placedV_ok X Y) (by rw [HV.out]; omega) w5 (HNt.out.keep (KpC.of_below hb5)))
  have HK5 := Lib.hid (HK7.out.below hb5 HK7.out.lt); have HSx5 := Lib.hid (HSx.out.keep (KpC.of_below hb5)); have HSy5 := Lib.hid (HSy.out.keep (KpC.of_below hb5))
  clear hS hb5 HK7 HSx HSy HNt
  go_wp2_with fail
  refine HCm.out.mono ?_
  rintro e w6 ⟨la, lc, R', C', hS', rfl, hsl, hb6⟩
  obtain ⟨rfl, rfl⟩ := HS.out.uniq hS'
  obtain ⟨hlL, hlx, hly, rf, cf, hO⟩ := ordF_of X Y c R C HS.out
  rw [← HN.out] at hlL hlx hly hO
  obtain ⟨lb, lo, rfl, hlc⟩ := slX_cells hsl (by rw [hlL]; omega)
  have hk6 := HK5.out.below hb6 HK5.out.lt
  have hsx := HSx5.out.keep (KpC.of_below hb6); have hsy := HSy5.out.keep (KpC.of_below hb6)
  obtain ⟨xb, xo, rfl, hxc⟩ := slX_cells hsx (by rw [hlx]; omega)
  obtain ⟨yb, yo, rfl, hyc⟩ := slX_cells hsy (by rw [hly]; omega)
  have exn : xn = N := by obtain ⟨_, _, e, _⟩ := hsx; have := (Value.slice.inj e).2.1; omega
  have eyn : yn = N := by obtain ⟨_, _, e, _⟩ := hsy; have := (Value.slice.inj e).2.1; omega
  rw [hlL] at hlc ⊢; rw [hlx] at hxc; rw [hly] at hyc
  obtain ⟨xf, hxf⟩ : ∃ f : Nat → Int, f = fun k => (placedV X Y).X[k]?.getD 0 := ⟨_, rfl⟩
  obtain ⟨yf, hyf⟩ : ∃ f : Nat → Int, f = fun k => (placedV X Y).Y[k]?.getD 0 := ⟨_, rfl⟩
  obtain ⟨lf, hlf⟩ : ∃ f : Nat → Int, f = fun k => (mapNet (placedV X Y) R C)[k]?.getD 0 := ⟨_, rfl⟩
  rw [← hxf, ← hyf, ← hlf] at hO
  have HXc := Lib.hid (show ∀ k, k < N → w6.cell? ⟨xb, xo + k, none⟩ = some (.int .i64 (xf k)) from fun k hk => by rw [hxf]; exact hxc k hk)
  have HYc := Lib.hid (show ∀ k, k < N → w6.cell? ⟨yb, yo + k, none⟩ = some (.int .i64 (yf k)) from fun k hk => by rw [hyf]; exact hyc k hk)
  have HLc := Lib.hid (show ∀ k, k < N → w6.cell? ⟨lb, lo + k, none⟩ = some (.int .i64 (lf k)) from fun k hk => by rw [hlf]; exact hlc k hk)
  rw [exn, eyn] at hk6
  have HO := Lib.hid hO; have HB6 := Lib.hid (HB5.out.next' hb6); have HK6 := Lib.hid hk6
  have hSf := HS.out.facts
  obtain ⟨q, hq⟩ : ∃ q, q = R * C := ⟨_, rfl⟩
  have hqI : (R : Int) * (C : Int) = (q : Int) := by rw [hq, Int.natCast_mul]
  obtain ⟨r2, hr2⟩ : ∃ q, q = (R + 1) * (R + 1) := ⟨_, rfl⟩
  have hr2I : ((R : Int) + 1) * ((R : Int) + 1) = (r2 : Int) := by rw [hr2, Int.natCast_mul]; rfl
  have hR256 : R ≤ 256 ∧ C ≤ 256 := ⟨Nat.le_trans (Nat.le_mul_of_pos_right R (by omega)) (Nat.le_trans hSf.1 hcb.2), Nat.le_trans (Nat.le_mul_of_pos_left C HS.out.pos) (Nat.le_trans hSf.1 hcb.2)⟩
  have hr2b : r2 ≤ 257 * 257 := by rw [hr2]; exact Nat.mul_le_mul (by omega) (by omega)
  have hhigh : c < r2 := by rw [hr2]; exact HS.out.high
  have hqb : 1 ≤ q ∧ q ≤ c := by rw [hq]; exact ⟨hSf.2.1, hSf.1⟩
  have t1 : ¬ (c : Int) < (q : Int) := by omega
  have t2 : ¬ (q : Int) < 1 := by omega
  have t3 : ¬ (C : Int) < (R : Int) := by omega
  have t4 : ¬ (r2 : Int) ≤ (c : Int) := by omega
  have t1b : decide ((c : Int) < (q : Int)) = false := decide_eq_false t1
  have t2b : decide ((q : Int) < 1) = false := decide_eq_false t2
  have t3b : decide ((C : Int) < (R : Int)) = false := decide_eq_false t3
  have t4b : decide ((r2 : Int) ≤ (c : Int)) = false := decide_eq_false t4
  have t1c : decide (c < q) = false := decide_eq_false (by omega)
  have t3c : decide (C < R) = false := decide_eq_false (by omega)
  have t4c : decide (r2 ≤ c) = false := decide_eq_false (by omega)
  have wq : IntKind.i64.wrap ((R : Int) * (C : Int)) = (q : Int) := by rw [hqI, IntKind.wrap_i64]; omega
  have wq2 : wrap64 ((R : Int) * (C : Int)) = (q : Int) := by rw [hqI]; unfold wrap64; omega
  have wr1 : IntKind.i64.wrap ((R : Int) + 1) = (R : Int) + 1 := by rw [IntKind.wrap_i64]; omega
  have wr2 : IntKind.i64.wrap (((R : Int) + 1) * ((R : Int) + 1)) = (r2 : Int) := by rw [hr2I, IntKind.wrap_i64]; omega
  have wr3 : wrap64 (((R : Int) + 1) * ((R : Int) + 1)) = (r2 : Int) := by rw [hr2I]; unfold wrap64; omega
  have HQ := Lib.hid (And.intro hq (And.intro hSf hR256))
  have HCb := Lib.hid hcb
  have g0 := hk6.cell 0
  simp only [List.getElem?_toArray, List.getElem?_cons_zero] at g0
  clear exn eyn hS' hb6 hsl hlL hlx hly hO hlc hk6 hsx hsy hxc hyc hxf hyf hlf hSf hq hqI hr2 hr2I hR256 hhigh hqb HCm HSx5 HSy5 HK5 hcb wc1 wc2 wc3
  go_wp2_with fail
  clear g0 wq wr1 wr2 wr3 t1 t2 t3 t4 t1b t2b t3b t4b t1c t3c t4c hr2b
  go_loopw [14] (fun i wr => ∃ (k : Nat), k ≤ N ∧ i = .int .i64 k ∧ Hid (Below w6.heap.size w6 wr)) (fun i _ => N - (intOf i).toNat)
  case atStart => exact ⟨0, Nat.zero_le _, rfl, Lib.hid (Below.refl _ _)⟩
  case round =>
    obtain ⟨v, hv, rfl, HBr⟩ := hrel
    have k7 := HK6.out.below HBr.out HK6.out.lt
    have c0' := k7.cell 0; have c1' := k7.cell 1; have c2' := k7.cell 2
    simp only [List.getElem?_toArray, List.getElem?_cons_succ, List.getElem?_cons_zero] at c0' c1' c2'
    have HK7 := Lib.hid k7
    clear k7
    by_cases hlt : v < N
    · have hltI : (v : Int) < (N : Int) := by omega
      have i1 : (0 : Int) ≤ (v : Int) := by omega
      have cl := cell_later HBr.out (HLc.out v hlt)
      obtain ⟨lv, hlv⟩ : ∃ x, x = lf v := ⟨_, rfl⟩
      obtain ⟨e1, e2, e3⟩ := HO.out.hl v hlt
      rw [← hlv] at cl e1
      have hrg := cell_range e2 e3
      rw [← e1] at hrg
      have hpt := cell_parts (r := rf v) e3
      rw [← e1] at hpt
      have hqI : (R : Int) * (C : Int) = (q : Int) := by rw [HQ.out.1, Int.natCast_mul]
      rw [hqI] at hrg
      have s1 : ¬ lv < 0 := by omega
      have s2 : ¬ (q : Int) ≤ lv := by omega
      have s1b : decide (lv < 0) = false := decide_eq_false s1
      have s2b : decide ((q : Int) ≤ lv) = false := decide_eq_false s2
      have HLv := Lib.hid hlv; have HPt := Lib.hid (And.intro hpt (And.intro hrg (And.intro e2 e3)))
      clear hlv e1 e2 e3 hrg hpt hqI
      go_wp2_with fail
      clear s1 s2 s1b s2b cl c0' c1' c2'
      go_loopw [15, 16, 17] (fun f l i wr2 => ∃ (j : Nat), j ≤ N ∧ f = .bool (allK (fun u => decide (xf v ≤ xf u)) j) ∧ l = .bool (allK (fun u => decide (xf u ≤ xf v)) j) ∧ i = .int .i64 j ∧ Hid (Below w6.heap.size w6 wr2)) (fun _ _ i _ => N - (intOf i).toNat)
      case atStart => exact ⟨0, Nat.zero_le _, rfl, rfl, rfl, HBr⟩
      case round =>
        obtain ⟨j, hj, rfl, rfl, rfl, HBs⟩ := hrel
        have k7 := HK6.out.below HBs.out HK6.out.lt
        have c0' := k7.cell 0; have c1' := k7.cell 1; have c2' := k7.cell 2
        simp only [List.getElem?_toArray, List.getElem?_cons_succ, List.getElem?_cons_zero] at c0' c1' c2'
        clear k7
        obtain ⟨F, hF⟩ : ∃ b, b = allK (fun u => decide (xf v ≤ xf u)) j := ⟨_, rfl⟩
        obtain ⟨G, hG⟩ : ∃ b, b = allK (fun u => decide (xf u ≤ xf v)) j := ⟨_, rfl⟩
        rw [← hF, ← hG]
        by_cases hjlt : j < N
        · have hjI : (j : Int) < (N : Int) := by omega
          have i2 : (0 : Int) ≤ (j : Int) := by omega
          have xcv := cell_later HBs.out (HXc.out v hlt); have xcj := cell_later HBs.out (HXc.out j hjlt)
          obtain ⟨xv, hxv⟩ : ∃ x, x = xf v := ⟨_, rfl⟩
          obtain ⟨xj, hxj⟩ : ∃ x, x = xf j := ⟨_, rfl⟩
          rw [← hxv] at xcv; rw [← hxj] at xcj
          have HF := Lib.hid hF; have HG := Lib.hid hG; have HXv := Lib.hid (And.intro hxv hxj)
          clear hF hG hxv hxj
          go_upto_region 21 with fail
          go_cut [15, 16, 17] from 100 to 127 (fun s15 s16 s17 wx => s15 = .bool (F && decide (xv ≤ xj)) ∧ s16 = .bool (G && decide (xj ≤ xv)) ∧ s17 = .int .i64 j ∧ Hid (Below w6.heap.size w6 wx))
          case first =>
            cases F <;> cases G
            all_goals as_aux_lemma =>
              go_wp2_with fail
              go_quiet (fail)
              go_wp2_with fail
              go_meet
              case rel => exact ⟨rfl, rfl, rfl, Lib.hid (below_drewN HBs.out _)⟩
          case rest =>
            clear c0' c1' c2' xcv xcj
            obtain ⟨s15, s16, s17, HBc⟩ := hcut
            subst s15 s16 s17
            have k7 := HK6.out.below HBc.out HK6.out.lt
            have c1' := k7.cell 1; have c2' := k7.cell 2
            simp only [List.getElem?_toArray, List.getElem?_cons_succ, List.getElem?_cons_zero] at c1' c2'
            have xcv := cell_later HBc.out (HXc.out v hlt); have xcj := cell_later HBc.out (HXc.out j hjlt)
            have ycv := cell_later HBc.out (HYc.out v hlt); have ycj := cell_later HBc.out (HYc.out j hjlt)
            have lcv := cell_later HBc.out (HLc.out v hlt); have lcj := cell_later HBc.out (HLc.out j hjlt)
            obtain ⟨yv, hyv⟩ : ∃ x, x = yf v := ⟨_, rfl⟩
            obtain ⟨yj, hyj⟩ : ∃ x, x = yf j := ⟨_, rfl⟩
            obtain ⟨lj, hlj⟩ : ∃ x, x = lf j := ⟨_, rfl⟩
            obtain ⟨cv, hcv⟩ : ∃ x, x = cf v := ⟨_, rfl⟩
            obtain ⟨cj, hcj⟩ : ∃ x, x = cf j := ⟨_, rfl⟩
            obtain ⟨rv, hrv⟩ : ∃ x, x = rf v := ⟨_, rfl⟩
            obtain ⟨rj, hrj⟩ : ∃ x, x = rf j := ⟨_, rfl⟩
            obtain ⟨a1, a2, a3⟩ := HO.out.hl j hjlt
            have bpt := cell_parts (r := rf j) a3
            rw [← hlj] at a1
            rw [← a1] at bpt
            obtain ⟨⟨p1, p2⟩, ⟨p3, p4⟩, p5, p6⟩ := HPt.out
            have mx := HO.out.mx j v hjlt hlt; have my := HO.out.my j v hjlt hlt
            rw [← HXv.out.1, ← HXv.out.2, ← hcv, ← hcj] at mx
            rw [← hyv, ← hyj, ← hrv, ← hrj] at my
            rw [← HXv.out.1] at xcv; rw [← HXv.out.2] at xcj; rw [← hyv] at ycv; rw [← hyj] at ycj; rw [← HLv.out] at lcv; rw [← hlj] at lcj
            rw [← hrv] at p1 p5; rw [← hcv] at p2 p6
            rw [← hcj] at a3 bpt; rw [← hrj] at a2 bpt
            have hC := HQ.out.2.2
            have hlj0 : 0 ≤ lj := by
              have hrg := cell_range (R := R) a2 a3
              rw [hcj, hrj, ← a1] at hrg; exact hrg.1
            have q1 : lj.tmod (C : Int) = cj := by rw [Int.tmod_eq_emod_of_nonneg hlj0]; exact bpt.2
            have q2 : lj.tdiv (C : Int) = rj := by rw [Int.tdiv_eq_ediv_of_nonneg hlj0]; exact bpt.1
            have q3 : lv.tmod (C : Int) = cv := by rw [Int.tmod_eq_emod_of_nonneg p3]; exact p2
            have q4 : lv.tdiv (C : Int) = rv := by rw [Int.tdiv_eq_ediv_of_nonneg p3]; exact p1
            have z1 : ¬ (C : Int) = 0 := by omega
            have z2 : ¬ C = 0 := by omega
            have z3 : ((C : Int) == 0) = false := by simpa using z1
            have b1 : -9223372036854775808 ≤ cj ∧ cj ≤ 9223372036854775807 := by omega
            have b2 : -9223372036854775808 ≤ rj ∧ rj ≤ 9223372036854775807 := by omega
            have b3 : -9223372036854775808 ≤ cv ∧ cv ≤ 9223372036854775807 := by omega
            have b4 : -9223372036854775808 ≤ rv ∧ rv ≤ 9223372036854775807 := by omega
            have HMx := Lib.hid mx; have HMy := Lib.hid my
            have HAF := Lib.hid (show allK (fun u => decide (xf v ≤ xf u)) (j + 1) = (F && decide (xv ≤ xj)) by rw [allK_succ, ← HF.out, HXv.out.1, HXv.out.2])
            have HAG := Lib.hid (show allK (fun u => decide (xf u ≤ xf v)) (j + 1) = (G && decide (xj ≤ xv)) by rw [allK_succ, ← HG.out, HXv.out.1, HXv.out.2])
            clear k7 hyv hyj hlj hcv hcj hrv hrj a1 a2 a3 bpt p1 p2 p3 p4 p5 p6 mx my hC hlj0
            have y1 : IntKind.i64.wrap cj = cj := by rw [IntKind.wrap_i64]; omega
            have y2 : IntKind.i64.wrap rj = rj := by rw [IntKind.wrap_i64]; omega
            have y3 : IntKind.i64.wrap cv = cv := by rw [IntKind.wrap_i64]; omega
            have y4 : IntKind.i64.wrap rv = rv := by rw [IntKind.wrap_i64]; omega
            clear b1 b2 b3 b4
            by_cases g1 : xj ≤ xv
            · have d1 : decide (xj ≤ xv) = true := decide_eq_true g1
              have d3 : ¬ cv < cj := by have := HMx.out g1; omega
              have d4 : decide (cv < cj) = false := decide_eq_false d3
              by_cases g2 : yj ≤ yv
              · have d2 : decide (yj ≤ yv) = true := decide_eq_true g2
                have d5 : ¬ rv < rj := by have := HMy.out g2; omega
                have d6 : decide (rv < rj) = false := decide_eq_false d5
                as_aux_lemma =>
                  go_wp2_with fail
                  go_quiet (fail)
                  go_wp2_with fail
                  go_roundw
                  case rel => exact ⟨j + 1, by omega, by simp only [HAF.out], by rw [HAG.out, d1]; first | rw [Bool.and_true] | rw [Bool.and_false], by go_num, Lib.hid (below_drewN HBc.out _)⟩
                  case measure => simp [intOf]; omega
              · have d2 : decide (yj ≤ yv) = false := decide_eq_false g2
                as_aux_lemma =>
                  go_wp2_with fail
                  go_quiet (fail)
                  go_wp2_with fail
                  go_roundw
                  case rel => exact ⟨j + 1, by omega, by simp only [HAF.out], by rw [HAG.out, d1]; first | rw [Bool.and_true] | rw [Bool.and_false], by go_num, Lib.hid (below_drewN HBc.out _)⟩
                  case measure => simp [intOf]; omega
            · have d1 : decide (xj ≤ xv) = false := decide_eq_false g1
              by_cases g2 : yj ≤ yv
              · have d2 : decide (yj ≤ yv) = true := decide_eq_true g2
                have d5 : ¬ rv < rj := by have := HMy.out g2; omega
                have d6 : decide (rv < rj) = false := decide_eq_false d5
                as_aux_lemma =>
                  go_wp2_with fail
                  go_quiet (fail)
                  go_wp2_with fail
                  go_roundw
                  case rel => exact ⟨j + 1, by omega, by simp only [HAF.out], by rw [HAG.out, d1]; first | rw [Bool.and_true] | rw [Bool.and_false], by go_num, Lib.hid (below_drewN HBc.out _)⟩
                  case measure => simp [intOf]; omega
              · have d2 : decide (yj ≤ yv) = false := decide_eq_false g2
                as_aux_lemma =>
                  go_wp2_with fail
                  go_quiet (fail)
                  go_wp2_with fail
                  go_roundw
                  case rel => exact ⟨j + 1, by omega, by simp only [HAF.out], by rw [HAG.out, d1]; first | rw [Bool.and_true] | rw [Bool.and_false], by go_num, Lib.hid (below_drewN HBc.out _)⟩
                  case measure => simp [intOf]; omega
        · obtain rfl : N = j := by omega
          have lcv := cell_later HBs.out (HLc.out v hlt)
          rw [← HLv.out] at lcv
          obtain ⟨⟨p1, p2⟩, ⟨p3, p4⟩, p5, p6⟩ := HPt.out
          obtain ⟨cv, hcv⟩ : ∃ x, x = cf v := ⟨_, rfl⟩
          rw [← hcv] at p2 p6
          have hC := HQ.out.2.2
          have q3 : lv.tmod (C : Int) = cv := by rw [Int.tmod_eq_emod_of_nonneg p3]; exact p2
          have z1 : ¬ (C : Int) = 0 := by omega
          have z2 : ¬ C = 0 := by omega
          have z3 : ((C : Int) == 0) = false := by simpa using z1
          have b3 : -9223372036854775808 ≤ cv ∧ cv ≤ 9223372036854775807 := by omega
          have hfst : F = true → cv = 0 := fun h => by
            rw [hcv]
            rw [hF] at h
            exact HO.out.fst v hlt fun u hu => of_decide_eq_true (allK_true h u hu)
          have hlst : F = false → G = true → 2 ≤ C → 1 ≤ cv := fun h h2 h3 => by
            rw [hcv]
            rw [hF] at h; rw [hG] at h2
            exact HO.out.lst v hlt (fun u hu => of_decide_eq_true (allK_true h2 u hu)) (fun hh => allK_false h fun u hu => decide_eq_true (hh u hu)) h3
          have HFst := Lib.hid hfst; have HLst := Lib.hid hlst
          clear p1 p2 p3 p4 p5 hF hG hcv hC hfst hlst c1' c2'
          have y3 : IntKind.i64.wrap cv = cv := by rw [IntKind.wrap_i64]; omega
          clear b3
          cases F with
          | true =>
            obtain rfl := HFst.out rfl
            cases G
            all_goals as_aux_lemma =>
              go_wp2_with fail
              go_roundw
              case rel => exact ⟨v + 1, by omega, by go_num, Lib.hid HBs.out⟩
              case measure => simp [intOf]; omega
          | false =>
            cases G with
            | false =>
              go_wp2_with fail
              go_roundw
              case rel => exact ⟨v + 1, by omega, by go_num, Lib.hid HBs.out⟩
              case measure => simp [intOf]; omega
            | true =>
              by_cases hC2 : 2 ≤ C
              · have h1 := HLst.out rfl rfl hC2
                have h2 : ¬ cv = 0 := by omega
                have h3 : (cv == 0) = false := by simpa using h2
                clear h1 p6
                go_wp2_with fail
                go_roundw
                case rel => exact ⟨v + 1, by omega, by go_num, Lib.hid HBs.out⟩
                case measure => simp [intOf]; omega
              · obtain rfl : C = 1 := by omega
                obtain rfl : cv = 0 := by omega
                go_wp2_with fail
                go_roundw
                case rel => exact ⟨v + 1, by omega, by go_num, Lib.hid HBs.out⟩
                case measure => simp [intOf]; omega
    · obtain rfl : N = v := by omega
      go_wp2_with fail
      go_ret
      exact ⟨rfl, HB6.out.next' HBr.out⟩
end Go.Proofs.YtlddcnkiigamjaaDoor
/- an argument that is a raw graph; one of three numbers. -/
namespace Go.Proofs.YtlddcnkiigamjaaDoor
open Go.RowKit Go.Deep
theorem blk_of_cell {w : World} {b i : Nat} {v : Value} (h : w.cell? ⟨b, i, none⟩ = some v) : ∃ cs t fr, Blk w b cs t fr ∧ cs[i]? = some v := by
  unfold World.cell? at h
  split at h
  · rename_i cs t fr hb
    exact ⟨cs, t, fr, hb, h⟩
  · cases h
theorem blk_cell_same {w : World} {b i : Nat} {cs : Array Value} {t : TypeId} {fr : Nat × Nat} {v : Value} (hb : Blk w b cs t fr) (h : w.cell? ⟨b, i, none⟩ = some v) : cs[i]? = some v := by
  rw [hb.cell] at h; exact h
theorem SlX.of_I {w : World} {v : Value} {L : List Int} (h : SlI w v .i64 L) : SlX w v L := by
  obtain ⟨a, cap, rfl, h1, h2, h3⟩ := h
  refine ⟨a, cap, rfl, h1, h2, fun i hi => ?_⟩
  obtain ⟨b, off, ha, hc⟩ := h3 i hi
  obtain ⟨cs, t, fr, hb, hx⟩ := blk_of_cell hc
  exact ⟨b, off, cs, t, fr, ha, hb, hx⟩
theorem three_of {α : Type} : ∀ {l : List α}, l.length = 3 → ∃ a b c, l = [a, b, c]
  | [a, b, c], _ => ⟨a, b, c, rfl⟩
theorem four_of {α : Type} : ∀ {l : List α}, l.length = 4 → ∃ a b c d, l = [a, b, c, d]
  | [a, b, c, d], _ => ⟨a, b, c, d, rfl⟩
theorem Rd.arc {w : World} {es : List Value} (h : Rd Tryd.prog w 58 es) : ∃ a : Ar, es = arC a := by
  obtain ⟨hl, _⟩ := Rd.struct Tryd.underlying58 h
  obtain ⟨e0, e1, e2, rfl⟩ := three_of (hl.trans (show Tryd.prog.cellsOf 58 = 3 by kernel_rfl))
  clear hl
  · skip
    obtain ⟨n0, h0, _⟩ := Rd.int (k := .i64) Tryd.underlying3 (Rd.field (e := 3) (c := e0) Tryd.underlying58 h 0 (by kernel_rfl) (by kernel_rfl) rfl)
    obtain ⟨n1, h1, _⟩ := Rd.int (k := .i64) Tryd.underlying3 (Rd.field (e := 3) (c := e1) Tryd.underlying58 h 1 (by kernel_rfl) (by kernel_rfl) rfl)
    obtain ⟨n2, h2, _⟩ := Rd.int (k := .i64) Tryd.underlying2 (Rd.field (e := 2) (c := e2) Tryd.underlying58 h 2 (by kernel_rfl) (by kernel_rfl) rfl)
    cases h0; cases h1; cases h2
    exact ⟨(n0, n1, n2), rfl⟩
theorem Rd.arcs {w : World} {v : Value} (h : Rd Tryd.prog w 24 [v]) : ∃ L : List Ar, SlA w v L := by
  obtain ⟨a, len, cap, h1, hl, hm, hel⟩ := Rd.slice Tryd.underlying24 (by rw [show Tryd.prog.cellsOf 58 = 3 by kernel_rfl]; omega) h
  have hc : Tryd.prog.cellsOf 58 = 3 := by kernel_rfl
  have hex : ∀ i, i < len → ∃ x : Ar, ∃ b off cs t fr, a = some ⟨b, off, none⟩ ∧ Blk w b cs t fr ∧ cs[off + i * 3]? = some (.int .i64 x.1) ∧ cs[off + i * 3 + 1]? = some (.int .i64 x.2.1) ∧ cs[off + i * 3 + 2]? = some (.int .i64 x.2.2) := fun i hi => by
    obtain ⟨b, off, ha, es, hes, hcell, hrd⟩ := hel i hi
    obtain ⟨x, rfl⟩ := Rd.arc hrd
    rw [hc] at hcell
    have c0 := hcell 0 (by omega); have c1 := hcell 1 (by omega); have c2 := hcell 2 (by omega)
    obtain ⟨cs, t, fr, hb, hx⟩ := blk_of_cell (c0.trans (show (arC x)[0]? = some (.int .i64 x.1) from rfl))
    exact ⟨x, b, off, cs, t, fr, ha, hb, hx, blk_cell_same hb (c1.trans rfl), blk_cell_same hb (c2.trans rfl)⟩
  obtain ⟨f, hf⟩ := choose_lt hex
  have hv : v = .slice a len cap := by simpa using h1
  refine ⟨(List.range len).map f, a, cap, by rw [hv]; simp, by simpa using hl, hm, fun i hi => ?_⟩
  have hi' : i < len := by simpa using hi
  obtain ⟨b, off, cs, t, fr, ha, hb, h0, h1, h2⟩ := hf i hi'
  exact ⟨b, off, cs, t, fr, ha, hb, by simpa using h0, by simpa using h1, by simpa using h2⟩
/-- a raw graph as an argument -/
theorem Rd.raw {w : World} {cs : Array Value} (h : Rd Tryd.prog w 26 cs.toList) : ∃ r : Raw, RawV w (.agg cs) r := by
  obtain ⟨es⟩ := cs
  obtain ⟨hl, _⟩ := Rd.struct Tryd.underlying26 h
  obtain ⟨e0, e1, e2, e3, rfl⟩ := four_of (hl.trans (show Tryd.prog.cellsOf 26 = 4 by kernel_rfl))
  clear hl
  · skip
    obtain ⟨n, h0, _⟩ := Rd.int (k := .i64) Tryd.underlying3 (Rd.field (e := 3) (c := e0) Tryd.underlying26 h 0 (by kernel_rfl) (by kernel_rfl) rfl)
    obtain ⟨X, hX, _⟩ := Rd.ints (k := .i64) Tryd.underlying22 Tryd.underlying2 (by kernel_rfl) (Rd.field (e := 22) (c := e1) Tryd.underlying26 h 1 (by kernel_rfl) (by kernel_rfl) rfl)
    obtain ⟨Y, hY, _⟩ := Rd.ints (k := .i64) Tryd.underlying22 Tryd.underlying2 (by kernel_rfl) (Rd.field (e := 22) (c := e2) Tryd.underlying26 h 2 (by kernel_rfl) (by kernel_rfl) rfl)
    obtain ⟨L, hL⟩ := Rd.arcs (Rd.field (e := 24) (c := e3) Tryd.underlying26 h 3 (by kernel_rfl) (by kernel_rfl) rfl)
    cases h0
    exact ⟨⟨n, X, Y, L⟩, e1, e2, e3, rfl, SlX.of_I hX, SlX.of_I hY, hL⟩
end Go.Proofs.YtlddcnkiigamjaaDoor
/- GridOrder: its arguments read. -/
namespace Go.Proofs.YtlddcnkiigamjaaDoor
open Go.RowKit
theorem gridOrder_rd {v0 v1 : Value} (c : Nat) (W : World) (R0 : Rd Tryd.prog W 22 [v0]) (R1 : Rd Tryd.prog W 22 [v1]) (l2 : c < 256) (hg : HG W) : Calls Tryd.prog 3 #[v0, v1, .int .u8 (c : Nat)] W fun e w' => e = .returned (.bool true) ∧ Below W.heap.size W w' := by
  obtain ⟨X, hX, _⟩ := Rd.ints (k := .i64) Tryd.underlying22 Tryd.underlying2 (by kernel_rfl) R0
  obtain ⟨Y, hY, _⟩ := Rd.ints (k := .i64) Tryd.underlying22 Tryd.underlying2 (by kernel_rfl) R1
  exact gridOrder_any v0 v1 X Y c W (SlX.of_I hX) (SlX.of_I hY) l2 hg
end Go.Proofs.YtlddcnkiigamjaaDoor
