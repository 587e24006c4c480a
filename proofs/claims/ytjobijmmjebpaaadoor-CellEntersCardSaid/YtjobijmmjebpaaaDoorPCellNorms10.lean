/- Texts of the law CellNorms, merged: CellBorderB. -/
import Derived.Test.YtjobijmmjebpaaaDoorPCellNorms09
/- cell: (*Cells).Border, its end. -/
namespace Go.Proofs.YtjobijmmjebpaaaDoor
open Go.RowKit Go.Shelf
attribute [local go_sem] Oper.semAt_some
theorem rowV_row {g : Raw} (E : Ar → Int) {k : Nat} (hk : (k : Int) < g.nodes) : rowV E g k = rowK E g.arcs k g.arcs.length := by
  unfold rowV
  rw [rowsOf_len, if_pos ⟨by omega, by omega⟩, Int.toNat_natCast, rowsOf_get _ _ _ _ (by omega)]
  rfl
theorem rowV_mem {g : Raw} (E : Ar → Int) {k : Nat} (hk : (k : Int) < g.nodes) {i : Int} : i ∈ rowV E g k ↔ ∃ n : Nat, i = (n : Int) ∧ ∃ h : n < g.arcs.length, E g.arcs[n] = (k : Int) := by
  rw [rowV_row E hk, mem_rowK]
  constructor
  · rintro ⟨n, h1, h2, h3⟩
    exact ⟨n, h2, h1, by rw [List.getElem?_eq_getElem h1] at h3; exact h3⟩
  · rintro ⟨n, h1, h2, h3⟩
    exact ⟨n, h2, h1, by rw [List.getElem?_eq_getElem h2]; exact h3⟩
theorem rows_few {E : Ar → Int} {g : Raw} (h : g.arcs.length ≤ 1000000) : ∀ r ∈ rowsOf E g.arcs g.nodes.toNat, r.length ≤ 1000000000000 := fun r hr => by
  unfold rowsOf at hr
  obtain ⟨v, _, rfl⟩ := List.mem_map.1 hr
  have := rowK_le E g.arcs v g.arcs.length
  omega
theorem rowV_len {E : Ar → Int} {g : Raw} (h : g.arcs.length ≤ 1000000) {k : Nat} (hk : (k : Int) < g.nodes) : (rowV E g k).length ≤ 1000000 := by
  rw [rowV_row E hk]
  have := rowK_le E g.arcs k g.arcs.length
  omega
/-- is a node of a cell's border? -/
def borderH (g : Raw) (L : List Int) (c : Int) (k : Nat) : Bool := decide (L[k]? = some c) && (rowV endT g k).any (beyondH g L c)
def borderV (g : Raw) (L : List Int) (c : Int) : List Int := upH (borderH g L c) L.length
theorem arcI_fits {g : Raw} (hok : g.Ok) {L : List Int} (hL : (L.length : Int) = g.nodes) {k : Nat} (hk : k < L.length) : ∀ i ∈ rowV endT g k, 0 ≤ ((arcI g i).getD (0, 0, 0)).1 ∧ ((arcI g i).getD (0, 0, 0)).1 < L.length := fun i hi => by
  obtain ⟨n, rfl, hn, _⟩ := (rowV_mem endT (by omega)).1 hi
  have e : arcI g (n : Nat) = some g.arcs[n] := by unfold arcI; rw [if_pos ⟨by omega, by omega⟩, Int.toNat_natCast, List.getElem?_eq_getElem hn]
  rw [e]
  have := (hok.arc _ (List.getElem_mem hn)).1
  show 0 ≤ g.arcs[n].1 ∧ g.arcs[n].1 < _
  omega
/-- all that Border's closures hold -/
structure BoxesAt (u : World) (q1 q2 q3 q4 n p : Nat) (g : Raw) (L : List Int) (many c : Int) : Prop where
  one : Blk u q1 #[.pointer (some ⟨p, 0, none⟩)] 33 (0, 0)
  two : Blk u q2 #[.int .i64 c] 3 (0, 0)
  three : Blk u q3 #[.pointer (some ⟨n, 0, none⟩)] 28 (0, 0)
  four : Blk u q4 #[.func (.func 30) #[] #[.pointer (some ⟨q3, 0, none⟩), .pointer (some ⟨q1, 0, none⟩), .pointer (some ⟨q2, 0, none⟩)]] 63 (0, 0)
  net : NetAt u n g
  cells : CellsAt u p L many
theorem BoxesAt.keep {u u' : World} {q1 q2 q3 q4 n p : Nat} {g : Raw} {L : List Int} {many c : Int} (h : BoxesAt u q1 q2 q3 q4 n p g L many c) (hk : KpC u u') : BoxesAt u' q1 q2 q3 q4 n p g L many c :=
  ⟨hk.blk h.one, hk.blk h.two, hk.blk h.three, hk.blk h.four, h.net.keep hk, h.cells.keep hk⟩
theorem inn_is {n : Nat} {g : Raw} {i : Int} {w : World} (h : NetAt w n g) (hl : g.arcs.length ≤ 1000000) : Calls Tryd.prog 36 #[.pointer (some ⟨n, 0, none⟩), .int .i64 i] w fun e w' => ∃ v', e = .returned v' ∧ w'.ownsRow w.heap.size 3 1 v' (rowV endT g i).length ((rowV endT g i).flatMap inC) ∧ Below w.heap.size w w' := inn_any n g i w h (rows_few hl)
theorem contains_is {q1 q2 q3 q4 n p : Nat} {g : Raw} {L : List Int} {many c : Int} (k : Nat) (hok : g.Ok) (hL : (L.length : Int) = g.nodes) (hal : g.arcs.length ≤ 1000000) (hk : k < L.length) {w : World} (h : BoxesAt w q1 q2 q3 q4 n p g L many c) {v : Value} (hv : SlX w v (rowV endT g k)) :
    Calls Tryd.prog 35 #[v, .func (.func 30) #[] #[.pointer (some ⟨q3, 0, none⟩), .pointer (some ⟨q1, 0, none⟩), .pointer (some ⟨q2, 0, none⟩)]] w fun e w' => e = .returned (.bool ((rowV endT g k).any (beyondH g L c))) ∧ Below w.heap.size w w' :=
  containsFunc_any q3 q1 q2 v _ (beyondH g L c) w hv (by have := rowV_len (E := endT) hal (show (k : Int) < g.nodes by omega); omega) fun u hu x hx => by
    have hh := h.keep (KpC.of_below hu)
    exact border1_any q3 q1 q2 n p g L many c x u hh.three hh.one hh.two hh.net hh.cells (arcI_fits hok hL hk x hx)
set_option maxRecDepth 100000 in
set_option maxHeartbeats 8000000 in
theorem border2_any (q1 q2 q3 q4 n p : Nat) (g : Raw) (L : List Int) (many c : Int) (k : Nat) (u : World) (hok : g.Ok) (hLn : (L.length : Int) = g.nodes) (hal : g.arcs.length ≤ 1000000) (hk : k < L.length) (h : BoxesAt u q1 q2 q3 q4 n p g L many c) :
    Calls Tryd.prog 34 #[.int .i64 (k : Nat), .pointer (some ⟨q1, 0, none⟩), .pointer (some ⟨q2, 0, none⟩), .pointer (some ⟨q3, 0, none⟩), .pointer (some ⟨q4, 0, none⟩)] u fun e w' => e = .returned (.bool (borderH g L c k)) ∧ Below u.heap.size u w' := by
  have HBx := Lib.hid h; have HLn := Lib.hid hLn
  clear hLn
  obtain ⟨a, cl, hc0, _, hs⟩ := h.cells.cells
  obtain ⟨bl, ol, rfl, _⟩ := hs.at k hk
  obtain ⟨x, hx⟩ : ∃ x, x = L[k] := ⟨_, rfl⟩
  have HCl := Lib.hid (show ∀ u', Below u.heap.size u u' → u'.cell? ⟨p, 0, none⟩ = some (.slice (some ⟨bl, ol, none⟩) L.length cl) ∧ u'.cell? ⟨bl, ol + k, none⟩ = some (.int .i64 x) from fun u' hu => by
    have e0 := cell_later hu hc0
    obtain ⟨b3, o3, e3, d3⟩ := (hs.keep (KpC.of_below hu)).at k hk
    obtain ⟨rfl, rfl⟩ : bl = b3 ∧ ol = o3 := by simpa using e3
    exact ⟨e0, by rw [d3, ← hx]⟩)
  have i1 : (0 : Int) ≤ (k : Int) := by omega
  have i2 : (k : Int) < (L.length : Int) := by omega
  have he : borderH g L c k = ((x == c) && (rowV endT g k).any (beyondH g L c)) := by
    unfold borderH
    rw [List.getElem?_eq_getElem hk, ← hx]
    by_cases h : x = c <;> simp [h]
  rw [he]
  clear h hs hx he hc0
  go_enter Tryd.func34, Tryd.ntmps34
  go_upto_region 1 with fail
  by_cases hxc : x = c
  · have hq : (x == c) = true := by simpa using hxc
    clear hxc
    have HS := Lib.hid (show ∀ u', Below u.heap.size u u' → (u'.cell? ⟨q1, 0, none⟩ = some (.pointer (some ⟨p, 0, none⟩)) ∧ u'.cell? ⟨q2, 0, none⟩ = some (.int .i64 c) ∧ u'.cell? ⟨q3, 0, none⟩ = some (.pointer (some ⟨n, 0, none⟩)) ∧ u'.cell? ⟨q4, 0, none⟩ = some (.func (.func 30) #[] #[.pointer (some ⟨q3, 0, none⟩), .pointer (some ⟨q1, 0, none⟩), .pointer (some ⟨q2, 0, none⟩)]) ∧ u'.cell? ⟨p, 0, none⟩ = some (.slice (some ⟨bl, ol, none⟩) L.length cl) ∧ u'.cell? ⟨bl, ol + k, none⟩ = some (.int .i64 x)) from fun u' hu => by
      have h := HBx.out.keep (KpC.of_below hu)
      have e1 := h.one.cell 0; have e2 := h.two.cell 0; have e3 := h.three.cell 0; have e4 := h.four.cell 0
      simp only [List.getElem?_toArray, List.getElem?_cons_zero] at e1 e2 e3 e4
      exact ⟨e1, e2, e3, e4, (HCl.out u' hu).1, (HCl.out u' hu).2⟩)
    have HBel := Lib.hid (Below.refl u.heap.size u)
    refine wp_region_held (S := fun w' => w'.cell? ⟨q1, 0, none⟩ = some (.pointer (some ⟨p, 0, none⟩)) ∧ w'.cell? ⟨q2, 0, none⟩ = some (.int .i64 c) ∧ w'.cell? ⟨q3, 0, none⟩ = some (.pointer (some ⟨n, 0, none⟩)) ∧ w'.cell? ⟨q4, 0, none⟩ = some (.func (.func 30) #[] #[.pointer (some ⟨q3, 0, none⟩), .pointer (some ⟨q1, 0, none⟩), .pointer (some ⟨q2, 0, none⟩)]) ∧ w'.cell? ⟨p, 0, none⟩ = some (.slice (some ⟨bl, ol, none⟩) L.length cl) ∧ w'.cell? ⟨bl, ol + k, none⟩ = some (.int .i64 x)) rfl ?_
    have hS0 := HS.out u.drew (HBel.out.drew)
    change wpAnyH _ _ _ _ _ 17 _ _ u.drew
    have HBe := Lib.hid (HBel.out.drew)
    refine heldA_take (i := 0) (v := .pointer (some ⟨p, 0, none⟩)) rfl rfl (by kernel_rfl) (by kernel_rfl) (by kernel_rfl) (fun _ _ _ h => h) (by rfl) (fun w hS => by obtain ⟨hS1, hS2, hS3, hS4, hS5, hS6⟩ := hS; go_simp) hS0 ?_
    simp only [List.setIfInBounds_toArray, List.set_cons_zero, List.set_cons_succ]
    refine heldA_take (i := 1) (v := .pointer (some ⟨p, 0, none⟩)) rfl rfl (by kernel_rfl) (by kernel_rfl) (by kernel_rfl) (fun _ _ _ h => h) (by rfl) (fun w hS => by obtain ⟨hS1, hS2, hS3, hS4, hS5, hS6⟩ := hS; go_simp) hS0 ?_
    simp only [List.setIfInBounds_toArray, List.set_cons_zero, List.set_cons_succ]
    refine heldA_take (i := 2) (v := .pointer (some ⟨p, 0, none⟩)) rfl rfl (by kernel_rfl) (by kernel_rfl) (by kernel_rfl) (fun _ _ _ h => h) (by rfl) (fun w hS => by obtain ⟨hS1, hS2, hS3, hS4, hS5, hS6⟩ := hS; go_simp) hS0 ?_
    simp only [List.setIfInBounds_toArray, List.set_cons_zero, List.set_cons_succ]
    refine heldA_take (i := 3) (v := .slice (some ⟨bl, ol, none⟩) L.length cl) rfl rfl (by kernel_rfl) (by kernel_rfl) (by kernel_rfl) (fun _ _ _ h => h) (by rfl) (fun w hS => by obtain ⟨hS1, hS2, hS3, hS4, hS5, hS6⟩ := hS; go_simp) hS0 ?_
    simp only [List.setIfInBounds_toArray, List.set_cons_zero, List.set_cons_succ]
    refine heldA_take (i := 4) (v := .int .i64 (k : Nat)) rfl rfl (by kernel_rfl) (by kernel_rfl) (by kernel_rfl) (fun _ _ _ h => h) (by rfl) (fun w hS => by obtain ⟨hS1, hS2, hS3, hS4, hS5, hS6⟩ := hS; go_simp) hS0 ?_
    simp only [List.setIfInBounds_toArray, List.set_cons_zero, List.set_cons_succ]
    refine heldA_take (i := 5) (v := .pointer (some ⟨bl, ol + k, none⟩)) rfl rfl (by kernel_rfl) (by kernel_rfl) (by kernel_rfl) (fun _ _ _ h => h) (by rfl) (fun w hS => by obtain ⟨hS1, hS2, hS3, hS4, hS5, hS6⟩ := hS; go_simp) hS0 ?_
    simp only [List.setIfInBounds_toArray, List.set_cons_zero, List.set_cons_succ]
    refine heldA_take (i := 6) (v := .int .i64 x) rfl rfl (by kernel_rfl) (by kernel_rfl) (by kernel_rfl) (fun _ _ _ h => h) (by rfl) (fun w hS => by obtain ⟨hS1, hS2, hS3, hS4, hS5, hS6⟩ := hS; go_simp) hS0 ?_
    simp only [List.setIfInBounds_toArray, List.set_cons_zero, List.set_cons_succ]
    refine heldA_take (i := 7) (v := .int .i64 c) rfl rfl (by kernel_rfl) (by kernel_rfl) (by kernel_rfl) (fun _ _ _ h => h) (by rfl) (fun w hS => by obtain ⟨hS1, hS2, hS3, hS4, hS5, hS6⟩ := hS; go_simp) hS0 ?_
    simp only [List.setIfInBounds_toArray, List.set_cons_zero, List.set_cons_succ]
    refine heldA_take (i := 8) (v := .bool true) rfl rfl (by kernel_rfl) (by kernel_rfl) (by kernel_rfl) (fun _ _ _ h => h) (by rfl) (fun w hS => by obtain ⟨hS1, hS2, hS3, hS4, hS5, hS6⟩ := hS; go_simp) hS0 ?_
    simp only [List.setIfInBounds_toArray, List.set_cons_zero, List.set_cons_succ]
    refine heldA_take (i := 9) (v := .bool true) rfl rfl (by kernel_rfl) (by kernel_rfl) (by kernel_rfl) (fun _ _ _ h => h) (by rfl) (fun w hS => by obtain ⟨hS1, hS2, hS3, hS4, hS5, hS6⟩ := hS; go_simp) hS0 ?_
    simp only [List.setIfInBounds_toArray, List.set_cons_zero, List.set_cons_succ]
    refine heldA_take (i := 10) (v := .pointer (some ⟨n, 0, none⟩)) rfl rfl (by kernel_rfl) (by kernel_rfl) (by kernel_rfl) (fun _ _ _ h => h) (by rfl) (fun w hS => by obtain ⟨hS1, hS2, hS3, hS4, hS5, hS6⟩ := hS; go_simp) hS0 ?_
    simp only [List.setIfInBounds_toArray, List.set_cons_zero, List.set_cons_succ]
    refine heldA_take (i := 11) (v := .int .i64 (k : Nat)) rfl rfl (by kernel_rfl) (by kernel_rfl) (by kernel_rfl) (fun _ _ _ h => h) (by rfl) (fun w hS => by obtain ⟨hS1, hS2, hS3, hS4, hS5, hS6⟩ := hS; go_simp) hS0 ?_
    simp only [List.setIfInBounds_toArray, List.set_cons_zero, List.set_cons_succ]
    refine heldA_take (i := 13) (v := .func (.func 30) #[] #[.pointer (some ⟨q3, 0, none⟩), .pointer (some ⟨q1, 0, none⟩), .pointer (some ⟨q2, 0, none⟩)]) rfl rfl (by kernel_rfl) (by kernel_rfl) (by kernel_rfl) (fun _ _ _ h => h) (by rfl) (fun w hS => by obtain ⟨hS1, hS2, hS3, hS4, hS5, hS6⟩ := hS; go_simp) hS0 ?_
    simp only [List.setIfInBounds_toArray, List.set_cons_zero, List.set_cons_succ]
    refine heldA_one (i := 12) (by kernel_rfl) ?_
    refine wpOp_calls (f := 36) rfl rfl (by rfl) (by go_simp) (inn_is (i := (k : Nat)) (HBx.out.keep (KpC.of_below HBe.out)).net hal) ?_ (by rintro _ _ ⟨_, h, _⟩; cases h) (by rintro _ ⟨_, h, _⟩; cases h)
    rintro v5 u5 ⟨_, ⟨rfl⟩, hr, hb⟩
    have HBn := Lib.hid (HBe.out.trans (hb.mono HBe.out.size))
    have HSr := Lib.hid (show SlX u5 v5 (rowV endT g k) from slX_own rfl hr)
    obtain ⟨ra, rn, rc, rfl⟩ := hr.one'
    clear hr
    replace HBe := HBn
    clear HBn hb hS0
    have hS0 := HS.out u5 HBe.out
    refine ⟨hS0, ?_⟩
    simp only [List.setIfInBounds_toArray, List.set_cons_zero, List.set_cons_succ]
    refine heldA_one (i := 14) (by kernel_rfl) ?_
    refine wpOp_calls (f := 35) rfl rfl (by rfl) (by go_simp) (contains_is k hok HLn.out hal hk (HBx.out.keep (KpC.of_below HBe.out)) HSr.out) ?_ (by rintro _ _ ⟨h, _⟩; cases h) (by rintro _ ⟨h, _⟩; cases h)
    rintro v6 u6 ⟨⟨rfl⟩, hb⟩
    have HBn := Lib.hid (HBe.out.trans (hb.mono HBe.out.size))
    replace HBe := HBn
    clear HBn hb hS0
    have hS0 := HS.out u6 HBe.out
    refine ⟨hS0, ?_⟩
    simp only [List.setIfInBounds_toArray, List.set_cons_zero, List.set_cons_succ]
    refine heldA_take (i := 15) (v := .bool ((rowV endT g k).any (beyondH g L c))) rfl rfl (by kernel_rfl) (by kernel_rfl) (by kernel_rfl) (fun _ _ _ h => h) (by rfl) (fun w hS => by obtain ⟨hS1, hS2, hS3, hS4, hS5, hS6⟩ := hS; go_simp) hS0 ?_
    simp only [List.setIfInBounds_toArray, List.set_cons_zero, List.set_cons_succ]
    refine heldA_take (i := 16) (v := .bool ((rowV endT g k).any (beyondH g L c))) rfl rfl (by kernel_rfl) (by kernel_rfl) (by kernel_rfl) (fun _ _ _ h => h) (by rfl) (fun w hS => by obtain ⟨hS1, hS2, hS3, hS4, hS5, hS6⟩ := hS; go_simp) hS0 ?_
    simp only [List.setIfInBounds_toArray, List.set_cons_zero, List.set_cons_succ]
    refine wpAnyH_done (by kernel_rfl) ?_ _
    have HBf := HBe
    clear HS HBel HSr hS0 HBe
    go_wp2_with fail
    go_ret
    exact ⟨by rw [hq]; rfl, HBf.out⟩
  · have hq : (x == c) = false := by simpa using hxc
    clear hxc
    have HS := Lib.hid (show ∀ u', Below u.heap.size u u' → (u'.cell? ⟨q1, 0, none⟩ = some (.pointer (some ⟨p, 0, none⟩)) ∧ u'.cell? ⟨q2, 0, none⟩ = some (.int .i64 c) ∧ u'.cell? ⟨q3, 0, none⟩ = some (.pointer (some ⟨n, 0, none⟩)) ∧ u'.cell? ⟨q4, 0, none⟩ = some (.func (.func 30) #[] #[.pointer (some ⟨q3, 0, none⟩), .pointer (some ⟨q1, 0, none⟩), .pointer (some ⟨q2, 0, none⟩)]) ∧ u'.cell? ⟨p, 0, none⟩ = some (.slice (some ⟨bl, ol, none⟩) L.length cl) ∧ u'.cell? ⟨bl, ol + k, none⟩ = some (.int .i64 x)) from fun u' hu => by
      have h := HBx.out.keep (KpC.of_below hu)
      have e1 := h.one.cell 0; have e2 := h.two.cell 0; have e3 := h.three.cell 0; have e4 := h.four.cell 0
      simp only [List.getElem?_toArray, List.getElem?_cons_zero] at e1 e2 e3 e4
      exact ⟨e1, e2, e3, e4, (HCl.out u' hu).1, (HCl.out u' hu).2⟩)
    have HBel := Lib.hid (Below.refl u.heap.size u)
    refine wp_region_held (S := fun w' => w'.cell? ⟨q1, 0, none⟩ = some (.pointer (some ⟨p, 0, none⟩)) ∧ w'.cell? ⟨q2, 0, none⟩ = some (.int .i64 c) ∧ w'.cell? ⟨q3, 0, none⟩ = some (.pointer (some ⟨n, 0, none⟩)) ∧ w'.cell? ⟨q4, 0, none⟩ = some (.func (.func 30) #[] #[.pointer (some ⟨q3, 0, none⟩), .pointer (some ⟨q1, 0, none⟩), .pointer (some ⟨q2, 0, none⟩)]) ∧ w'.cell? ⟨p, 0, none⟩ = some (.slice (some ⟨bl, ol, none⟩) L.length cl) ∧ w'.cell? ⟨bl, ol + k, none⟩ = some (.int .i64 x)) rfl ?_
    have hS0 := HS.out u.drew (HBel.out.drew)
    change wpAnyH _ _ _ _ _ 17 _ _ u.drew
    have HBe := Lib.hid (HBel.out.drew)
    refine heldA_take (i := 0) (v := .pointer (some ⟨p, 0, none⟩)) rfl rfl (by kernel_rfl) (by kernel_rfl) (by kernel_rfl) (fun _ _ _ h => h) (by rfl) (fun w hS => by obtain ⟨hS1, hS2, hS3, hS4, hS5, hS6⟩ := hS; go_simp) hS0 ?_
    simp only [List.setIfInBounds_toArray, List.set_cons_zero, List.set_cons_succ]
    refine heldA_take (i := 1) (v := .pointer (some ⟨p, 0, none⟩)) rfl rfl (by kernel_rfl) (by kernel_rfl) (by kernel_rfl) (fun _ _ _ h => h) (by rfl) (fun w hS => by obtain ⟨hS1, hS2, hS3, hS4, hS5, hS6⟩ := hS; go_simp) hS0 ?_
    simp only [List.setIfInBounds_toArray, List.set_cons_zero, List.set_cons_succ]
    refine heldA_take (i := 2) (v := .pointer (some ⟨p, 0, none⟩)) rfl rfl (by kernel_rfl) (by kernel_rfl) (by kernel_rfl) (fun _ _ _ h => h) (by rfl) (fun w hS => by obtain ⟨hS1, hS2, hS3, hS4, hS5, hS6⟩ := hS; go_simp) hS0 ?_
    simp only [List.setIfInBounds_toArray, List.set_cons_zero, List.set_cons_succ]
    refine heldA_take (i := 3) (v := .slice (some ⟨bl, ol, none⟩) L.length cl) rfl rfl (by kernel_rfl) (by kernel_rfl) (by kernel_rfl) (fun _ _ _ h => h) (by rfl) (fun w hS => by obtain ⟨hS1, hS2, hS3, hS4, hS5, hS6⟩ := hS; go_simp) hS0 ?_
    simp only [List.setIfInBounds_toArray, List.set_cons_zero, List.set_cons_succ]
    refine heldA_take (i := 4) (v := .int .i64 (k : Nat)) rfl rfl (by kernel_rfl) (by kernel_rfl) (by kernel_rfl) (fun _ _ _ h => h) (by rfl) (fun w hS => by obtain ⟨hS1, hS2, hS3, hS4, hS5, hS6⟩ := hS; go_simp) hS0 ?_
    simp only [List.setIfInBounds_toArray, List.set_cons_zero, List.set_cons_succ]
    refine heldA_take (i := 5) (v := .pointer (some ⟨bl, ol + k, none⟩)) rfl rfl (by kernel_rfl) (by kernel_rfl) (by kernel_rfl) (fun _ _ _ h => h) (by rfl) (fun w hS => by obtain ⟨hS1, hS2, hS3, hS4, hS5, hS6⟩ := hS; go_simp) hS0 ?_
    simp only [List.setIfInBounds_toArray, List.set_cons_zero, List.set_cons_succ]
    refine heldA_take (i := 6) (v := .int .i64 x) rfl rfl (by kernel_rfl) (by kernel_rfl) (by kernel_rfl) (fun _ _ _ h => h) (by rfl) (fun w hS => by obtain ⟨hS1, hS2, hS3, hS4, hS5, hS6⟩ := hS; go_simp) hS0 ?_
    simp only [List.setIfInBounds_toArray, List.set_cons_zero, List.set_cons_succ]
    refine heldA_take (i := 7) (v := .int .i64 c) rfl rfl (by kernel_rfl) (by kernel_rfl) (by kernel_rfl) (fun _ _ _ h => h) (by rfl) (fun w hS => by obtain ⟨hS1, hS2, hS3, hS4, hS5, hS6⟩ := hS; go_simp) hS0 ?_
    simp only [List.setIfInBounds_toArray, List.set_cons_zero, List.set_cons_succ]
    refine heldA_take (i := 8) (v := .bool false) rfl rfl (by kernel_rfl) (by kernel_rfl) (by kernel_rfl) (fun _ _ _ h => h) (by rfl) (fun w hS => by obtain ⟨hS1, hS2, hS3, hS4, hS5, hS6⟩ := hS; go_simp) hS0 ?_
    simp only [List.setIfInBounds_toArray, List.set_cons_zero, List.set_cons_succ]
    refine heldA_take (i := 9) (v := .bool false) rfl rfl (by kernel_rfl) (by kernel_rfl) (by kernel_rfl) (fun _ _ _ h => h) (by rfl) (fun w hS => by obtain ⟨hS1, hS2, hS3, hS4, hS5, hS6⟩ := hS; go_simp) hS0 ?_
    simp only [List.setIfInBounds_toArray, List.set_cons_zero, List.set_cons_succ]
    refine heldA_skip (i := 10) rfl rfl (by kernel_rfl) (by kernel_rfl) (by kernel_rfl) (fun _ _ _ h => h) (by rfl) hS0 ?_
    simp only [List.setIfInBounds_toArray, List.set_cons_zero, List.set_cons_succ]
    refine heldA_skip (i := 11) rfl rfl (by kernel_rfl) (by kernel_rfl) (by kernel_rfl) (fun _ _ _ h => h) (by rfl) hS0 ?_
    simp only [List.setIfInBounds_toArray, List.set_cons_zero, List.set_cons_succ]
    refine heldA_skip (i := 12) rfl rfl (by kernel_rfl) (by kernel_rfl) (by kernel_rfl) (fun _ _ _ h => h) (by rfl) hS0 ?_
    simp only [List.setIfInBounds_toArray, List.set_cons_zero, List.set_cons_succ]
    refine heldA_skip (i := 13) rfl rfl (by kernel_rfl) (by kernel_rfl) (by kernel_rfl) (fun _ _ _ h => h) (by rfl) hS0 ?_
    simp only [List.setIfInBounds_toArray, List.set_cons_zero, List.set_cons_succ]
    refine heldA_skip (i := 14) rfl rfl (by kernel_rfl) (by kernel_rfl) (by kernel_rfl) (fun _ _ _ h => h) (by rfl) hS0 ?_
    simp only [List.setIfInBounds_toArray, List.set_cons_zero, List.set_cons_succ]
    refine heldA_take (i := 15) (v := .bool false) rfl rfl (by kernel_rfl) (by kernel_rfl) (by kernel_rfl) (fun _ _ _ h => h) (by rfl) (fun w hS => by obtain ⟨hS1, hS2, hS3, hS4, hS5, hS6⟩ := hS; go_simp) hS0 ?_
    simp only [List.setIfInBounds_toArray, List.set_cons_zero, List.set_cons_succ]
    refine heldA_take (i := 16) (v := .bool false) rfl rfl (by kernel_rfl) (by kernel_rfl) (by kernel_rfl) (fun _ _ _ h => h) (by rfl) (fun w hS => by obtain ⟨hS1, hS2, hS3, hS4, hS5, hS6⟩ := hS; go_simp) hS0 ?_
    simp only [List.setIfInBounds_toArray, List.set_cons_zero, List.set_cons_succ]
    refine wpAnyH_done (by kernel_rfl) ?_ _
    have HBf := HBe
    clear HS HBel hS0 HBe
    go_wp2_with fail
    go_ret
    exact ⟨by rw [hq]; rfl, HBf.out⟩
set_option maxRecDepth 100000 in
set_option maxHeartbeats 8000000 in
theorem border_nocells (v : Option Addr) (c : Int) (w : World) : Calls Tryd.prog 14 #[.pointer none, .pointer v, .int .i64 c] w fun e w' => e = .returned (.slice none 0 0) ∧ Below w.heap.size w w' := by
  obtain ⟨z, hz⟩ : ∃ z, z = w.heap.size := ⟨_, rfl⟩
  obtain ⟨w3, hw3⟩ : ∃ u, u = ((w.alloc (.cells #[.pointer none] 33)).alloc (.cells #[.pointer v] 28)).alloc (.cells #[.int .i64 c] 3) := ⟨_, rfl⟩
  have hb3 : Below w.heap.size w w3 := by rw [hw3]; exact (((Below.refl _ _).alloc (Nat.le_refl _) _).alloc (by simp) _).alloc (by simp; omega) _
  have hs3 : w3.heap.size = z + 3 := by rw [hw3, hz]; simp
  have k0 : Blk w3 z #[.pointer none] 33 (0, 0) := by rw [hw3, hz]; exact ((Blk.new _ _ _ _).alloc _).alloc _
  have k1 : Blk w3 (z + 1) #[.pointer v] 28 (0, 0) := by
    rw [hw3, hz]
    have h := (Blk.new (w.alloc (.cells #[.pointer none] 33)) #[.pointer v] 28 (0, 0)).alloc (.cells #[.int .i64 c] 3)
    rwa [World.size_alloc] at h
  have k2 : Blk w3 (z + 1 + 1) #[.int .i64 c] 3 (0, 0) := by
    rw [hw3, hz]
    have h := Blk.new ((w.alloc (.cells #[.pointer none] 33)).alloc (.cells #[.pointer v] 28)) #[.int .i64 c] 3 (0, 0)
    rwa [World.size_alloc, World.size_alloc] at h
  have HZ := Lib.hid hz; have HW3 := Lib.hid hw3; have HB3 := Lib.hid hb3; have HS3 := Lib.hid hs3; have HK := Lib.hid (And.intro k0 (And.intro k1 k2))
  clear hw3 hb3 hs3 k0 k1 k2
  have HS := Lib.hid (show ∀ u, Below w3.heap.size w3 u → (u.cell? ⟨z, 0, none⟩ = some ((.pointer none))) from fun u hu => by
    have k := (HK.out.1.below hu HK.out.1.lt).cell 0
    simpa using k)
  have HBel := Lib.hid (Below.refl w3.heap.size w3)
  go_enter Tryd.func14, Tryd.ntmps14
  go_upto_region 1 with fail
  rw [← HW3.out]
  rw [← hz]
  clear hz
  refine wp_region_held (S := fun w' => w'.cell? ⟨z, 0, none⟩ = some ((.pointer none))) rfl ?_
  have hS0 := HS.out w3.drew (HBel.out.drew)
  change wpAnyH _ _ _ _ _ 16 _ _ w3.drew
  have HBe := Lib.hid (HBel.out.drew)
  refine heldA_take (i := 0) (v := (.pointer none)) rfl rfl (by kernel_rfl) (by kernel_rfl) (by kernel_rfl) (fun _ _ _ h => h) (by rfl) (fun w hS => by obtain hS1 := hS; go_simp) hS0 ?_
  simp only [List.setIfInBounds_toArray, List.set_cons_zero, List.set_cons_succ]
  refine heldA_take (i := 1) (v := .bool true) rfl rfl (by kernel_rfl) (by kernel_rfl) (by kernel_rfl) (fun _ _ _ h => h) (by rfl) (fun w hS => by obtain hS1 := hS; go_simp) hS0 ?_
  simp only [List.setIfInBounds_toArray, List.set_cons_zero, List.set_cons_succ]
  refine heldA_take (i := 2) (v := .bool true) rfl rfl (by kernel_rfl) (by kernel_rfl) (by kernel_rfl) (fun _ _ _ h => h) (by rfl) (fun w hS => by obtain hS1 := hS; go_simp) hS0 ?_
  simp only [List.setIfInBounds_toArray, List.set_cons_zero, List.set_cons_succ]
  refine heldA_skip (i := 3) rfl rfl (by kernel_rfl) (by kernel_rfl) (by kernel_rfl) (fun _ _ _ h => h) (by rfl) hS0 ?_
  simp only [List.setIfInBounds_toArray, List.set_cons_zero, List.set_cons_succ]
  refine heldA_skip (i := 4) rfl rfl (by kernel_rfl) (by kernel_rfl) (by kernel_rfl) (fun _ _ _ h => h) (by rfl) hS0 ?_
  simp only [List.setIfInBounds_toArray, List.set_cons_zero, List.set_cons_succ]
  refine heldA_take (i := 5) (v := .bool true) rfl rfl (by kernel_rfl) (by kernel_rfl) (by kernel_rfl) (fun _ _ _ h => h) (by rfl) (fun w hS => by obtain hS1 := hS; go_simp) hS0 ?_
  simp only [List.setIfInBounds_toArray, List.set_cons_zero, List.set_cons_succ]
  refine heldA_take (i := 6) (v := .bool true) rfl rfl (by kernel_rfl) (by kernel_rfl) (by kernel_rfl) (fun _ _ _ h => h) (by rfl) (fun w hS => by obtain hS1 := hS; go_simp) hS0 ?_
  simp only [List.setIfInBounds_toArray, List.set_cons_zero, List.set_cons_succ]
  refine heldA_skip (i := 7) rfl rfl (by kernel_rfl) (by kernel_rfl) (by kernel_rfl) (fun _ _ _ h => h) (by rfl) hS0 ?_
  simp only [List.setIfInBounds_toArray, List.set_cons_zero, List.set_cons_succ]
  refine heldA_skip (i := 8) rfl rfl (by kernel_rfl) (by kernel_rfl) (by kernel_rfl) (fun _ _ _ h => h) (by rfl) hS0 ?_
  simp only [List.setIfInBounds_toArray, List.set_cons_zero, List.set_cons_succ]
  refine heldA_skip (i := 9) rfl rfl (by kernel_rfl) (by kernel_rfl) (by kernel_rfl) (fun _ _ _ h => h) (by rfl) hS0 ?_
  simp only [List.setIfInBounds_toArray, List.set_cons_zero, List.set_cons_succ]
  refine heldA_skip (i := 10) rfl rfl (by kernel_rfl) (by kernel_rfl) (by kernel_rfl) (fun _ _ _ h => h) (by rfl) hS0 ?_
  simp only [List.setIfInBounds_toArray, List.set_cons_zero, List.set_cons_succ]
  refine heldA_skip (i := 11) rfl rfl (by kernel_rfl) (by kernel_rfl) (by kernel_rfl) (fun _ _ _ h => h) (by rfl) hS0 ?_
  simp only [List.setIfInBounds_toArray, List.set_cons_zero, List.set_cons_succ]
  refine heldA_skip (i := 12) rfl rfl (by kernel_rfl) (by kernel_rfl) (by kernel_rfl) (fun _ _ _ h => h) (by rfl) hS0 ?_
  simp only [List.setIfInBounds_toArray, List.set_cons_zero, List.set_cons_succ]
  refine heldA_skip (i := 13) rfl rfl (by kernel_rfl) (by kernel_rfl) (by kernel_rfl) (fun _ _ _ h => h) (by rfl) hS0 ?_
  simp only [List.setIfInBounds_toArray, List.set_cons_zero, List.set_cons_succ]
  refine heldA_skip (i := 14) rfl rfl (by kernel_rfl) (by kernel_rfl) (by kernel_rfl) (fun _ _ _ h => h) (by rfl) hS0 ?_
  simp only [List.setIfInBounds_toArray, List.set_cons_zero, List.set_cons_succ]
  refine heldA_take (i := 15) (v := .bool true) rfl rfl (by kernel_rfl) (by kernel_rfl) (by kernel_rfl) (fun _ _ _ h => h) (by rfl) (fun w hS => by obtain hS1 := hS; go_simp) hS0 ?_
  simp only [List.setIfInBounds_toArray, List.set_cons_zero, List.set_cons_succ]
  refine wpAnyH_done (by kernel_rfl) ?_ _
  have HBf := Lib.hid (HB3.out.next' HBe.out)
  clear HS HBel hS0 HBe
  go_wp2_with fail
  go_ret
  exact ⟨rfl, HBf.out⟩
set_option maxRecDepth 100000 in
set_option maxHeartbeats 8000000 in
theorem border_nonet (p : Nat) (c : Int) (w : World) : Calls Tryd.prog 14 #[.pointer (some ⟨p, 0, none⟩), .pointer none, .int .i64 c] w fun e w' => e = .returned (.slice none 0 0) ∧ Below w.heap.size w w' := by
  obtain ⟨z, hz⟩ : ∃ z, z = w.heap.size := ⟨_, rfl⟩
  obtain ⟨w3, hw3⟩ : ∃ u, u = ((w.alloc (.cells #[.pointer (some ⟨p, 0, none⟩)] 33)).alloc (.cells #[.pointer none] 28)).alloc (.cells #[.int .i64 c] 3) := ⟨_, rfl⟩
  have hb3 : Below w.heap.size w w3 := by rw [hw3]; exact (((Below.refl _ _).alloc (Nat.le_refl _) _).alloc (by simp) _).alloc (by simp; omega) _
  have hs3 : w3.heap.size = z + 3 := by rw [hw3, hz]; simp
  have k0 : Blk w3 z #[.pointer (some ⟨p, 0, none⟩)] 33 (0, 0) := by rw [hw3, hz]; exact ((Blk.new _ _ _ _).alloc _).alloc _
  have k1 : Blk w3 (z + 1) #[.pointer none] 28 (0, 0) := by
    rw [hw3, hz]
    have h := (Blk.new (w.alloc (.cells #[.pointer (some ⟨p, 0, none⟩)] 33)) #[.pointer none] 28 (0, 0)).alloc (.cells #[.int .i64 c] 3)
    rwa [World.size_alloc] at h
  have k2 : Blk w3 (z + 1 + 1) #[.int .i64 c] 3 (0, 0) := by
    rw [hw3, hz]
    have h := Blk.new ((w.alloc (.cells #[.pointer (some ⟨p, 0, none⟩)] 33)).alloc (.cells #[.pointer none] 28)) #[.int .i64 c] 3 (0, 0)
    rwa [World.size_alloc, World.size_alloc] at h
  have HZ := Lib.hid hz; have HW3 := Lib.hid hw3; have HB3 := Lib.hid hb3; have HS3 := Lib.hid hs3; have HK := Lib.hid (And.intro k0 (And.intro k1 k2))
  clear hw3 hb3 hs3 k0 k1 k2
  have HS := Lib.hid (show ∀ u, Below w3.heap.size w3 u → (u.cell? ⟨z, 0, none⟩ = some (.pointer (some ⟨p, 0, none⟩)) ∧ u.cell? ⟨(z + 1), 0, none⟩ = some ((.pointer none))) from fun u hu => by
    have k := (HK.out.1.below hu HK.out.1.lt).cell 0; have k2 := (HK.out.2.1.below hu HK.out.2.1.lt).cell 0
    simp only [List.getElem?_toArray, List.getElem?_cons_zero] at k k2
    exact ⟨k, k2⟩)
  have HBel := Lib.hid (Below.refl w3.heap.size w3)
  go_enter Tryd.func14, Tryd.ntmps14
  go_upto_region 1 with fail
  rw [← HW3.out]
  rw [← hz]
  clear hz
  refine wp_region_held (S := fun w' => w'.cell? ⟨z, 0, none⟩ = some (.pointer (some ⟨p, 0, none⟩)) ∧ w'.cell? ⟨(z + 1), 0, none⟩ = some ((.pointer none))) rfl ?_
  have hS0 := HS.out w3.drew (HBel.out.drew)
  change wpAnyH _ _ _ _ _ 16 _ _ w3.drew
  have HBe := Lib.hid (HBel.out.drew)
  refine heldA_take (i := 0) (v := .pointer (some ⟨p, 0, none⟩)) rfl rfl (by kernel_rfl) (by kernel_rfl) (by kernel_rfl) (fun _ _ _ h => h) (by rfl) (fun w hS => by obtain ⟨hS1, hS2⟩ := hS; go_simp) hS0 ?_
  simp only [List.setIfInBounds_toArray, List.set_cons_zero, List.set_cons_succ]
  refine heldA_take (i := 1) (v := .bool false) rfl rfl (by kernel_rfl) (by kernel_rfl) (by kernel_rfl) (fun _ _ _ h => h) (by rfl) (fun w hS => by obtain ⟨hS1, hS2⟩ := hS; go_simp) hS0 ?_
  simp only [List.setIfInBounds_toArray, List.set_cons_zero, List.set_cons_succ]
  refine heldA_take (i := 2) (v := .bool false) rfl rfl (by kernel_rfl) (by kernel_rfl) (by kernel_rfl) (fun _ _ _ h => h) (by rfl) (fun w hS => by obtain ⟨hS1, hS2⟩ := hS; go_simp) hS0 ?_
  simp only [List.setIfInBounds_toArray, List.set_cons_zero, List.set_cons_succ]
  refine heldA_take (i := 3) (v := (.pointer none)) rfl rfl (by kernel_rfl) (by kernel_rfl) (by kernel_rfl) (fun _ _ _ h => h) (by rfl) (fun w hS => by obtain ⟨hS1, hS2⟩ := hS; go_simp) hS0 ?_
  simp only [List.setIfInBounds_toArray, List.set_cons_zero, List.set_cons_succ]
  refine heldA_take (i := 4) (v := .bool true) rfl rfl (by kernel_rfl) (by kernel_rfl) (by kernel_rfl) (fun _ _ _ h => h) (by rfl) (fun w hS => by obtain ⟨hS1, hS2⟩ := hS; go_simp) hS0 ?_
  simp only [List.setIfInBounds_toArray, List.set_cons_zero, List.set_cons_succ]
  refine heldA_take (i := 5) (v := .bool true) rfl rfl (by kernel_rfl) (by kernel_rfl) (by kernel_rfl) (fun _ _ _ h => h) (by rfl) (fun w hS => by obtain ⟨hS1, hS2⟩ := hS; go_simp) hS0 ?_
  simp only [List.setIfInBounds_toArray, List.set_cons_zero, List.set_cons_succ]
  refine heldA_take (i := 6) (v := .bool true) rfl rfl (by kernel_rfl) (by kernel_rfl) (by kernel_rfl) (fun _ _ _ h => h) (by rfl) (fun w hS => by obtain ⟨hS1, hS2⟩ := hS; go_simp) hS0 ?_
  simp only [List.setIfInBounds_toArray, List.set_cons_zero, List.set_cons_succ]
  refine heldA_skip (i := 7) rfl rfl (by kernel_rfl) (by kernel_rfl) (by kernel_rfl) (fun _ _ _ h => h) (by rfl) hS0 ?_
  simp only [List.setIfInBounds_toArray, List.set_cons_zero, List.set_cons_succ]
  refine heldA_skip (i := 8) rfl rfl (by kernel_rfl) (by kernel_rfl) (by kernel_rfl) (fun _ _ _ h => h) (by rfl) hS0 ?_
  simp only [List.setIfInBounds_toArray, List.set_cons_zero, List.set_cons_succ]
  refine heldA_skip (i := 9) rfl rfl (by kernel_rfl) (by kernel_rfl) (by kernel_rfl) (fun _ _ _ h => h) (by rfl) hS0 ?_
  simp only [List.setIfInBounds_toArray, List.set_cons_zero, List.set_cons_succ]
  refine heldA_skip (i := 10) rfl rfl (by kernel_rfl) (by kernel_rfl) (by kernel_rfl) (fun _ _ _ h => h) (by rfl) hS0 ?_
  simp only [List.setIfInBounds_toArray, List.set_cons_zero, List.set_cons_succ]
  refine heldA_skip (i := 11) rfl rfl (by kernel_rfl) (by kernel_rfl) (by kernel_rfl) (fun _ _ _ h => h) (by rfl) hS0 ?_
  simp only [List.setIfInBounds_toArray, List.set_cons_zero, List.set_cons_succ]
  refine heldA_skip (i := 12) rfl rfl (by kernel_rfl) (by kernel_rfl) (by kernel_rfl) (fun _ _ _ h => h) (by rfl) hS0 ?_
  simp only [List.setIfInBounds_toArray, List.set_cons_zero, List.set_cons_succ]
  refine heldA_skip (i := 13) rfl rfl (by kernel_rfl) (by kernel_rfl) (by kernel_rfl) (fun _ _ _ h => h) (by rfl) hS0 ?_
  simp only [List.setIfInBounds_toArray, List.set_cons_zero, List.set_cons_succ]
  refine heldA_skip (i := 14) rfl rfl (by kernel_rfl) (by kernel_rfl) (by kernel_rfl) (fun _ _ _ h => h) (by rfl) hS0 ?_
  simp only [List.setIfInBounds_toArray, List.set_cons_zero, List.set_cons_succ]
  refine heldA_take (i := 15) (v := .bool true) rfl rfl (by kernel_rfl) (by kernel_rfl) (by kernel_rfl) (fun _ _ _ h => h) (by rfl) (fun w hS => by obtain ⟨hS1, hS2⟩ := hS; go_simp) hS0 ?_
  simp only [List.setIfInBounds_toArray, List.set_cons_zero, List.set_cons_succ]
  refine wpAnyH_done (by kernel_rfl) ?_ _
  have HBf := Lib.hid (HB3.out.next' HBe.out)
  clear HS HBel hS0 HBe
  go_wp2_with fail
  go_ret
  exact ⟨rfl, HBf.out⟩
set_option maxRecDepth 100000 in
set_option maxHeartbeats 8000000 in
theorem border_size (p n : Nat) (g : Raw) (L : List Int) (many c : Int) (w : World) (hN : NetAt w n g) (hC : CellsAt w p L many) (hne : g.nodes ≠ (L.length : Int)) : Calls Tryd.prog 14 #[.pointer (some ⟨p, 0, none⟩), .pointer (some ⟨n, 0, none⟩), .int .i64 c] w fun e w' => e = .returned (.slice none 0 0) ∧ Below w.heap.size w w' := by
  obtain ⟨z, hz⟩ : ∃ z, z = w.heap.size := ⟨_, rfl⟩
  obtain ⟨w3, hw3⟩ : ∃ u, u = ((w.alloc (.cells #[.pointer (some ⟨p, 0, none⟩)] 33)).alloc (.cells #[.pointer (some ⟨n, 0, none⟩)] 28)).alloc (.cells #[.int .i64 c] 3) := ⟨_, rfl⟩
  have hb3 : Below w.heap.size w w3 := by rw [hw3]; exact (((Below.refl _ _).alloc (Nat.le_refl _) _).alloc (by simp) _).alloc (by simp; omega) _
  have hs3 : w3.heap.size = z + 3 := by rw [hw3, hz]; simp
  have k0 : Blk w3 z #[.pointer (some ⟨p, 0, none⟩)] 33 (0, 0) := by rw [hw3, hz]; exact ((Blk.new _ _ _ _).alloc _).alloc _
  have k1 : Blk w3 (z + 1) #[.pointer (some ⟨n, 0, none⟩)] 28 (0, 0) := by
    rw [hw3, hz]
    have h := (Blk.new (w.alloc (.cells #[.pointer (some ⟨p, 0, none⟩)] 33)) #[.pointer (some ⟨n, 0, none⟩)] 28 (0, 0)).alloc (.cells #[.int .i64 c] 3)
    rwa [World.size_alloc] at h
  have k2 : Blk w3 (z + 1 + 1) #[.int .i64 c] 3 (0, 0) := by
    rw [hw3, hz]
    have h := Blk.new ((w.alloc (.cells #[.pointer (some ⟨p, 0, none⟩)] 33)).alloc (.cells #[.pointer (some ⟨n, 0, none⟩)] 28)) #[.int .i64 c] 3 (0, 0)
    rwa [World.size_alloc, World.size_alloc] at h
  have HZ := Lib.hid hz; have HW3 := Lib.hid hw3; have HB3 := Lib.hid hb3; have HS3 := Lib.hid hs3; have HK := Lib.hid (And.intro k0 (And.intro k1 k2))
  clear hw3 hb3 hs3 k0 k1 k2
  obtain ⟨al, cl, hc0, _, _⟩ := hC.cells
  have HNt := Lib.hid hN; have HCs := Lib.hid hC; have HC0 := Lib.hid hc0
  clear hN hC hc0
  have HS := Lib.hid (show ∀ u, Below w3.heap.size w3 u → (u.cell? ⟨z, 0, none⟩ = some (.pointer (some ⟨p, 0, none⟩)) ∧ u.cell? ⟨(z + 1), 0, none⟩ = some (.pointer (some ⟨n, 0, none⟩)) ∧ u.cell? ⟨p, 0, none⟩ = some (.slice al L.length cl)) from fun u hu => by
    have k := (HK.out.1.below hu HK.out.1.lt).cell 0; have k2 := (HK.out.2.1.below hu HK.out.2.1.lt).cell 0
    simp only [List.getElem?_toArray, List.getElem?_cons_zero] at k k2
    exact ⟨k, k2, cell_later (HB3.out.next' hu) HC0.out⟩)
  have HCn := Lib.hid (show ∀ u, Below w3.heap.size w3 u → Calls Tryd.prog 29 #[.pointer (some ⟨n, 0, none⟩)] u fun e w' => e = .returned (.int .i64 g.nodes) ∧ w' = u from fun u hu => nodes_any n g u (HNt.out.keep (KpC.of_below (HB3.out.next' hu))))
  have HBel := Lib.hid (Below.refl w3.heap.size w3)
  have hq : ¬ g.nodes = (L.length : Int) := hne
  clear hne
  go_enter Tryd.func14, Tryd.ntmps14
  go_upto_region 1 with fail
  rw [← HW3.out]
  rw [← hz]
  clear hz
  refine wp_region_held (S := fun w' => w'.cell? ⟨z, 0, none⟩ = some (.pointer (some ⟨p, 0, none⟩)) ∧ w'.cell? ⟨(z + 1), 0, none⟩ = some (.pointer (some ⟨n, 0, none⟩)) ∧ w'.cell? ⟨p, 0, none⟩ = some (.slice al L.length cl)) rfl ?_
  have hS0 := HS.out w3.drew (HBel.out.drew)
  change wpAnyH _ _ _ _ _ 16 _ _ w3.drew
  have HBe := Lib.hid (HBel.out.drew)
  refine heldA_take (i := 0) (v := .pointer (some ⟨p, 0, none⟩)) rfl rfl (by kernel_rfl) (by kernel_rfl) (by kernel_rfl) (fun _ _ _ h => h) (by rfl) (fun w hS => by obtain ⟨hS1, hS2, hS3⟩ := hS; go_simp) hS0 ?_
  simp only [List.setIfInBounds_toArray, List.set_cons_zero, List.set_cons_succ]
  refine heldA_take (i := 1) (v := .bool false) rfl rfl (by kernel_rfl) (by kernel_rfl) (by kernel_rfl) (fun _ _ _ h => h) (by rfl) (fun w hS => by obtain ⟨hS1, hS2, hS3⟩ := hS; go_simp) hS0 ?_
  simp only [List.setIfInBounds_toArray, List.set_cons_zero, List.set_cons_succ]
  refine heldA_take (i := 2) (v := .bool false) rfl rfl (by kernel_rfl) (by kernel_rfl) (by kernel_rfl) (fun _ _ _ h => h) (by rfl) (fun w hS => by obtain ⟨hS1, hS2, hS3⟩ := hS; go_simp) hS0 ?_
  simp only [List.setIfInBounds_toArray, List.set_cons_zero, List.set_cons_succ]
  refine heldA_take (i := 3) (v := .pointer (some ⟨n, 0, none⟩)) rfl rfl (by kernel_rfl) (by kernel_rfl) (by kernel_rfl) (fun _ _ _ h => h) (by rfl) (fun w hS => by obtain ⟨hS1, hS2, hS3⟩ := hS; go_simp) hS0 ?_
  simp only [List.setIfInBounds_toArray, List.set_cons_zero, List.set_cons_succ]
  refine heldA_take (i := 4) (v := .bool false) rfl rfl (by kernel_rfl) (by kernel_rfl) (by kernel_rfl) (fun _ _ _ h => h) (by rfl) (fun w hS => by obtain ⟨hS1, hS2, hS3⟩ := hS; go_simp) hS0 ?_
  simp only [List.setIfInBounds_toArray, List.set_cons_zero, List.set_cons_succ]
  refine heldA_take (i := 5) (v := .bool false) rfl rfl (by kernel_rfl) (by kernel_rfl) (by kernel_rfl) (fun _ _ _ h => h) (by rfl) (fun w hS => by obtain ⟨hS1, hS2, hS3⟩ := hS; go_simp) hS0 ?_
  simp only [List.setIfInBounds_toArray, List.set_cons_zero, List.set_cons_succ]
  refine heldA_take (i := 6) (v := .bool false) rfl rfl (by kernel_rfl) (by kernel_rfl) (by kernel_rfl) (fun _ _ _ h => h) (by rfl) (fun w hS => by obtain ⟨hS1, hS2, hS3⟩ := hS; go_simp) hS0 ?_
  simp only [List.setIfInBounds_toArray, List.set_cons_zero, List.set_cons_succ]
  refine heldA_take (i := 7) (v := .pointer (some ⟨n, 0, none⟩)) rfl rfl (by kernel_rfl) (by kernel_rfl) (by kernel_rfl) (fun _ _ _ h => h) (by rfl) (fun w hS => by obtain ⟨hS1, hS2, hS3⟩ := hS; go_simp) hS0 ?_
  simp only [List.setIfInBounds_toArray, List.set_cons_zero, List.set_cons_succ]
  refine heldA_take (i := 9) (v := .pointer (some ⟨p, 0, none⟩)) rfl rfl (by kernel_rfl) (by kernel_rfl) (by kernel_rfl) (fun _ _ _ h => h) (by rfl) (fun w hS => by obtain ⟨hS1, hS2, hS3⟩ := hS; go_simp) hS0 ?_
  simp only [List.setIfInBounds_toArray, List.set_cons_zero, List.set_cons_succ]
  refine heldA_take (i := 10) (v := .pointer (some ⟨p, 0, none⟩)) rfl rfl (by kernel_rfl) (by kernel_rfl) (by kernel_rfl) (fun _ _ _ h => h) (by rfl) (fun w hS => by obtain ⟨hS1, hS2, hS3⟩ := hS; go_simp) hS0 ?_
  simp only [List.setIfInBounds_toArray, List.set_cons_zero, List.set_cons_succ]
  refine heldA_take (i := 11) (v := .pointer (some ⟨p, 0, none⟩)) rfl rfl (by kernel_rfl) (by kernel_rfl) (by kernel_rfl) (fun _ _ _ h => h) (by rfl) (fun w hS => by obtain ⟨hS1, hS2, hS3⟩ := hS; go_simp) hS0 ?_
  simp only [List.setIfInBounds_toArray, List.set_cons_zero, List.set_cons_succ]
  refine heldA_take (i := 12) (v := .slice al L.length cl) rfl rfl (by kernel_rfl) (by kernel_rfl) (by kernel_rfl) (fun _ _ _ h => h) (by rfl) (fun w hS => by obtain ⟨hS1, hS2, hS3⟩ := hS; go_simp) hS0 ?_
  simp only [List.setIfInBounds_toArray, List.set_cons_zero, List.set_cons_succ]
  refine heldA_take (i := 13) (v := .int .i64 (L.length : Nat)) rfl rfl (by kernel_rfl) (by kernel_rfl) (by kernel_rfl) (fun _ _ _ h => h) (by rfl) (fun w hS => by obtain ⟨hS1, hS2, hS3⟩ := hS; go_simp) hS0 ?_
  simp only [List.setIfInBounds_toArray, List.set_cons_zero, List.set_cons_succ]
  refine heldA_one (i := 8) (by kernel_rfl) ?_
  refine wpOp_calls (f := 29) rfl rfl (by rfl) (by go_simp) (HCn.out w3.drew HBe.out) ?_ (by rintro _ _ ⟨h, _⟩; cases h) (by rintro _ ⟨h, _⟩; cases h)
  rintro _ _ ⟨⟨rfl⟩, rfl⟩
  refine ⟨hS0, ?_⟩
  simp only [List.setIfInBounds_toArray, List.set_cons_zero, List.set_cons_succ]
  refine heldA_take (i := 14) (v := .bool true) rfl rfl (by kernel_rfl) (by kernel_rfl) (by kernel_rfl) (fun _ _ _ h => h) (by rfl) (fun w hS => by obtain ⟨hS1, hS2, hS3⟩ := hS; go_simp) hS0 ?_
  simp only [List.setIfInBounds_toArray, List.set_cons_zero, List.set_cons_succ]
  refine heldA_take (i := 15) (v := .bool true) rfl rfl (by kernel_rfl) (by kernel_rfl) (by kernel_rfl) (fun _ _ _ h => h) (by rfl) (fun w hS => by obtain ⟨hS1, hS2, hS3⟩ := hS; go_simp) hS0 ?_
  simp only [List.setIfInBounds_toArray, List.set_cons_zero, List.set_cons_succ]
  refine wpAnyH_done (by kernel_rfl) ?_ _
  have HBf := Lib.hid (HB3.out.next' HBe.out)
  clear HS HBel hS0 HBe
  go_wp2_with fail
  go_ret
  exact ⟨rfl, HBf.out⟩
set_option maxRecDepth 100000 in
set_option maxHeartbeats 8000000 in
theorem border_any (p n : Nat) (g : Raw) (L : List Int) (many c : Int) (w : World) (hN : NetAt w n g) (hC : CellsAt w p L many) (hok : g.Ok) (hal : g.arcs.length ≤ 1000000) (hLl : L.length ≤ 1000000) (hL : (L.length : Int) = g.nodes) : Calls Tryd.prog 14 #[.pointer (some ⟨p, 0, none⟩), .pointer (some ⟨n, 0, none⟩), .int .i64 c] w fun e w' => ∃ v, e = .returned v ∧ w'.ownsRow w.heap.size 3 1 v (borderV g L c).length ((borderV g L c).flatMap inC) ∧ Below w.heap.size w w' := by
  obtain ⟨z, hz⟩ : ∃ z, z = w.heap.size := ⟨_, rfl⟩
  obtain ⟨w3, hw3⟩ : ∃ u, u = ((w.alloc (.cells #[.pointer (some ⟨p, 0, none⟩)] 33)).alloc (.cells #[.pointer (some ⟨n, 0, none⟩)] 28)).alloc (.cells #[.int .i64 c] 3) := ⟨_, rfl⟩
  have hb3 : Below w.heap.size w w3 := by rw [hw3]; exact (((Below.refl _ _).alloc (Nat.le_refl _) _).alloc (by simp) _).alloc (by simp; omega) _
  have hs3 : w3.heap.size = z + 3 := by rw [hw3, hz]; simp
  have k0 : Blk w3 z #[.pointer (some ⟨p, 0, none⟩)] 33 (0, 0) := by rw [hw3, hz]; exact ((Blk.new _ _ _ _).alloc _).alloc _
  have k1 : Blk w3 (z + 1) #[.pointer (some ⟨n, 0, none⟩)] 28 (0, 0) := by
    rw [hw3, hz]
    have h := (Blk.new (w.alloc (.cells #[.pointer (some ⟨p, 0, none⟩)] 33)) #[.pointer (some ⟨n, 0, none⟩)] 28 (0, 0)).alloc (.cells #[.int .i64 c] 3)
    rwa [World.size_alloc] at h
  have k2 : Blk w3 (z + 1 + 1) #[.int .i64 c] 3 (0, 0) := by
    rw [hw3, hz]
    have h := Blk.new ((w.alloc (.cells #[.pointer (some ⟨p, 0, none⟩)] 33)).alloc (.cells #[.pointer (some ⟨n, 0, none⟩)] 28)) #[.int .i64 c] 3 (0, 0)
    rwa [World.size_alloc, World.size_alloc] at h
  have HZ := Lib.hid hz; have HW3 := Lib.hid hw3; have HB3 := Lib.hid hb3; have HS3 := Lib.hid hs3; have HK := Lib.hid (And.intro k0 (And.intro k1 k2))
  clear hw3 hb3 hs3 k0 k1 k2
  obtain ⟨al, cl, hc0, _, _⟩ := hC.cells
  have HNt := Lib.hid hN; have HCs := Lib.hid hC; have HC0 := Lib.hid hc0
  clear hN hC hc0
  have HS := Lib.hid (show ∀ u, Below w3.heap.size w3 u → (u.cell? ⟨z, 0, none⟩ = some (.pointer (some ⟨p, 0, none⟩)) ∧ u.cell? ⟨(z + 1), 0, none⟩ = some (.pointer (some ⟨n, 0, none⟩)) ∧ u.cell? ⟨p, 0, none⟩ = some (.slice al L.length cl)) from fun u hu => by
    have k := (HK.out.1.below hu HK.out.1.lt).cell 0; have k2 := (HK.out.2.1.below hu HK.out.2.1.lt).cell 0
    simp only [List.getElem?_toArray, List.getElem?_cons_zero] at k k2
    exact ⟨k, k2, cell_later (HB3.out.next' hu) HC0.out⟩)
  have HCn := Lib.hid (show ∀ u, Below w3.heap.size w3 u → Calls Tryd.prog 29 #[.pointer (some ⟨n, 0, none⟩)] u fun e w' => e = .returned (.int .i64 g.nodes) ∧ w' = u from fun u hu => nodes_any n g u (HNt.out.keep (KpC.of_below (HB3.out.next' hu))))
  have HBel := Lib.hid (Below.refl w3.heap.size w3)
  rw [← hL] at HCn
  have HLn := Lib.hid hL
  clear hL
  go_enter Tryd.func14, Tryd.ntmps14
  go_upto_region 1 with fail
  rw [← HW3.out]
  rw [← hz]
  clear hz
  refine wp_region_held (S := fun w' => w'.cell? ⟨z, 0, none⟩ = some (.pointer (some ⟨p, 0, none⟩)) ∧ w'.cell? ⟨(z + 1), 0, none⟩ = some (.pointer (some ⟨n, 0, none⟩)) ∧ w'.cell? ⟨p, 0, none⟩ = some (.slice al L.length cl)) rfl ?_
  have hS0 := HS.out w3.drew (HBel.out.drew)
  change wpAnyH _ _ _ _ _ 16 _ _ w3.drew
  have HBe := Lib.hid (HBel.out.drew)
  refine heldA_take (i := 0) (v := .pointer (some ⟨p, 0, none⟩)) rfl rfl (by kernel_rfl) (by kernel_rfl) (by kernel_rfl) (fun _ _ _ h => h) (by rfl) (fun w hS => by obtain ⟨hS1, hS2, hS3⟩ := hS; go_simp) hS0 ?_
  simp only [List.setIfInBounds_toArray, List.set_cons_zero, List.set_cons_succ]
  refine heldA_take (i := 1) (v := .bool false) rfl rfl (by kernel_rfl) (by kernel_rfl) (by kernel_rfl) (fun _ _ _ h => h) (by rfl) (fun w hS => by obtain ⟨hS1, hS2, hS3⟩ := hS; go_simp) hS0 ?_
  simp only [List.setIfInBounds_toArray, List.set_cons_zero, List.set_cons_succ]
  refine heldA_take (i := 2) (v := .bool false) rfl rfl (by kernel_rfl) (by kernel_rfl) (by kernel_rfl) (fun _ _ _ h => h) (by rfl) (fun w hS => by obtain ⟨hS1, hS2, hS3⟩ := hS; go_simp) hS0 ?_
  simp only [List.setIfInBounds_toArray, List.set_cons_zero, List.set_cons_succ]
  refine heldA_take (i := 3) (v := .pointer (some ⟨n, 0, none⟩)) rfl rfl (by kernel_rfl) (by kernel_rfl) (by kernel_rfl) (fun _ _ _ h => h) (by rfl) (fun w hS => by obtain ⟨hS1, hS2, hS3⟩ := hS; go_simp) hS0 ?_
  simp only [List.setIfInBounds_toArray, List.set_cons_zero, List.set_cons_succ]
  refine heldA_take (i := 4) (v := .bool false) rfl rfl (by kernel_rfl) (by kernel_rfl) (by kernel_rfl) (fun _ _ _ h => h) (by rfl) (fun w hS => by obtain ⟨hS1, hS2, hS3⟩ := hS; go_simp) hS0 ?_
  simp only [List.setIfInBounds_toArray, List.set_cons_zero, List.set_cons_succ]
  refine heldA_take (i := 5) (v := .bool false) rfl rfl (by kernel_rfl) (by kernel_rfl) (by kernel_rfl) (fun _ _ _ h => h) (by rfl) (fun w hS => by obtain ⟨hS1, hS2, hS3⟩ := hS; go_simp) hS0 ?_
  simp only [List.setIfInBounds_toArray, List.set_cons_zero, List.set_cons_succ]
  refine heldA_take (i := 6) (v := .bool false) rfl rfl (by kernel_rfl) (by kernel_rfl) (by kernel_rfl) (fun _ _ _ h => h) (by rfl) (fun w hS => by obtain ⟨hS1, hS2, hS3⟩ := hS; go_simp) hS0 ?_
  simp only [List.setIfInBounds_toArray, List.set_cons_zero, List.set_cons_succ]
  refine heldA_take (i := 7) (v := .pointer (some ⟨n, 0, none⟩)) rfl rfl (by kernel_rfl) (by kernel_rfl) (by kernel_rfl) (fun _ _ _ h => h) (by rfl) (fun w hS => by obtain ⟨hS1, hS2, hS3⟩ := hS; go_simp) hS0 ?_
  simp only [List.setIfInBounds_toArray, List.set_cons_zero, List.set_cons_succ]
  refine heldA_take (i := 9) (v := .pointer (some ⟨p, 0, none⟩)) rfl rfl (by kernel_rfl) (by kernel_rfl) (by kernel_rfl) (fun _ _ _ h => h) (by rfl) (fun w hS => by obtain ⟨hS1, hS2, hS3⟩ := hS; go_simp) hS0 ?_
  simp only [List.setIfInBounds_toArray, List.set_cons_zero, List.set_cons_succ]
  refine heldA_take (i := 10) (v := .pointer (some ⟨p, 0, none⟩)) rfl rfl (by kernel_rfl) (by kernel_rfl) (by kernel_rfl) (fun _ _ _ h => h) (by rfl) (fun w hS => by obtain ⟨hS1, hS2, hS3⟩ := hS; go_simp) hS0 ?_
  simp only [List.setIfInBounds_toArray, List.set_cons_zero, List.set_cons_succ]
  refine heldA_take (i := 11) (v := .pointer (some ⟨p, 0, none⟩)) rfl rfl (by kernel_rfl) (by kernel_rfl) (by kernel_rfl) (fun _ _ _ h => h) (by rfl) (fun w hS => by obtain ⟨hS1, hS2, hS3⟩ := hS; go_simp) hS0 ?_
  simp only [List.setIfInBounds_toArray, List.set_cons_zero, List.set_cons_succ]
  refine heldA_take (i := 12) (v := .slice al L.length cl) rfl rfl (by kernel_rfl) (by kernel_rfl) (by kernel_rfl) (fun _ _ _ h => h) (by rfl) (fun w hS => by obtain ⟨hS1, hS2, hS3⟩ := hS; go_simp) hS0 ?_
  simp only [List.setIfInBounds_toArray, List.set_cons_zero, List.set_cons_succ]
  refine heldA_take (i := 13) (v := .int .i64 (L.length : Nat)) rfl rfl (by kernel_rfl) (by kernel_rfl) (by kernel_rfl) (fun _ _ _ h => h) (by rfl) (fun w hS => by obtain ⟨hS1, hS2, hS3⟩ := hS; go_simp) hS0 ?_
  simp only [List.setIfInBounds_toArray, List.set_cons_zero, List.set_cons_succ]
  refine heldA_one (i := 8) (by kernel_rfl) ?_
  refine wpOp_calls (f := 29) rfl rfl (by rfl) (by go_simp) (HCn.out w3.drew HBe.out) ?_ (by rintro _ _ ⟨h, _⟩; cases h) (by rintro _ ⟨h, _⟩; cases h)
  rintro _ _ ⟨⟨rfl⟩, rfl⟩
  refine ⟨hS0, ?_⟩
  simp only [List.setIfInBounds_toArray, List.set_cons_zero, List.set_cons_succ]
  refine heldA_take (i := 14) (v := .bool false) rfl rfl (by kernel_rfl) (by kernel_rfl) (by kernel_rfl) (fun _ _ _ h => h) (by rfl) (fun w hS => by obtain ⟨hS1, hS2, hS3⟩ := hS; go_simp) hS0 ?_
  simp only [List.setIfInBounds_toArray, List.set_cons_zero, List.set_cons_succ]
  refine heldA_take (i := 15) (v := .bool false) rfl rfl (by kernel_rfl) (by kernel_rfl) (by kernel_rfl) (fun _ _ _ h => h) (by rfl) (fun w hS => by obtain ⟨hS1, hS2, hS3⟩ := hS; go_simp) hS0 ?_
  simp only [List.setIfInBounds_toArray, List.set_cons_zero, List.set_cons_succ]
  refine wpAnyH_done (by kernel_rfl) ?_ _
  have HB4 := Lib.hid (HB3.out.next' HBe.out)
  clear HS HBel hS0 HBe HCn
  obtain ⟨w4, hw4⟩ : ∃ u, u = w3.drew := ⟨_, rfl⟩
  have hs4 : w4.heap.size = z + 3 := by rw [hw4]; exact HS3.out
  have k0 : Blk w4 z #[.pointer (some ⟨p, 0, none⟩)] 33 (0, 0) := by rw [hw4]; exact HK.out.1.drew
  have k1 : Blk w4 (z + 1) #[.pointer (some ⟨n, 0, none⟩)] 28 (0, 0) := by rw [hw4]; exact HK.out.2.1.drew
  have k2 : Blk w4 (z + 1 + 1) #[.int .i64 c] 3 (0, 0) := by rw [hw4]; exact HK.out.2.2.drew
  rw [← hw4] at HB4 ⊢
  obtain ⟨w5, hw5⟩ : ∃ u, u = w4.alloc (.cells #[.func (.func 30) #[] #[.pointer (some ⟨z + 1, 0, none⟩), .pointer (some ⟨z, 0, none⟩), .pointer (some ⟨z + 1 + 1, 0, none⟩)]] 63) := ⟨_, rfl⟩
  have hb5 : Below w4.heap.size w4 w5 := by rw [hw5]; exact (Below.refl _ _).alloc (Nat.le_refl _) _
  have hs5 : w5.heap.size = z + 4 := by rw [hw5]; simp [hs4]
  have k3 : Blk w5 (z + 3) #[.func (.func 30) #[] #[.pointer (some ⟨z + 1, 0, none⟩), .pointer (some ⟨z, 0, none⟩), .pointer (some ⟨z + 1 + 1, 0, none⟩)]] 63 (0, 0) := by rw [hw5, ← hs4]; exact Blk.new _ _ _ _
  have K0 := k0.below hb5 k0.lt; have K1 := k1.below hb5 k1.lt; have K2 := k2.below hb5 k2.lt
  have HB5 := Lib.hid (HB4.out.next' hb5)
  have hBx : BoxesAt w5 z (z + 1 + 1) (z + 1) (z + 3) n p g L many c := ⟨K0, K2, K1, k3, HNt.out.keep (KpC.of_below HB5.out), HCs.out.keep (KpC.of_below HB5.out)⟩
  have HBx := Lib.hid hBx
  have c0 := K0.cell 0
  simp only [List.getElem?_toArray, List.getElem?_cons_zero] at c0
  rw [hw5] at c0
  have HW5 := Lib.hid hw5; have HS5 := Lib.hid hs5; have HS4 := Lib.hid hs4
  have hmf : ∀ (fn : Fn) (first cap : Array Value) (w : World), (Instr.makeFunc fn first cap).run Tryd.prog w = .ok (.func fn first cap) w := fun _ _ _ _ => rfl
  clear hw4 hw5 hb5 hs4 hs5 k0 k1 k2 k3 K0 K1 K2 hBx HK HW3 HB4 HB3 HS3
  go_wp2_with fail
  rw [← HW5.out, HS4.out]
  clear c0
  refine (callsIn_wide.1 (nodes_inC 4 (some ⟨p, 0, none⟩) _ _ w5)).mono ?_
  rintro e w6 ⟨rfl, hw6⟩
  rw [HS5.out]
  have hb6 : Below w5.heap.size w5 w6 := by rw [hw6]; exact ((Below.refl _ _).alloc (Nat.le_refl _) _).alloc (by simp) _
  have hs6 : w6.heap.size = z + 4 + 2 := by rw [hw6]; simp [HS5.out]
  have k4 : Blk w6 (z + 4) #[.pointer (some ⟨p, 0, none⟩)] 33 (0, 0) := by rw [hw6, ← HS5.out]; exact (Blk.new _ _ _ _).alloc _
  have k5 : Blk w6 (z + 4 + 1) #[.func (.func 34) #[] #[.pointer (some ⟨z, 0, none⟩), .pointer (some ⟨z + 1 + 1, 0, none⟩), .pointer (some ⟨z + 1, 0, none⟩), .pointer (some ⟨z + 3, 0, none⟩)]] 63 (0, 0) := by
    rw [hw6, ← HS5.out]
    have h := Blk.new (w5.alloc (.cells #[.pointer (some ⟨p, 0, none⟩)] 33)) #[.func (.func 34) #[] #[.pointer (some ⟨z, 0, none⟩), .pointer (some ⟨z + 1 + 1, 0, none⟩), .pointer (some ⟨z + 1, 0, none⟩), .pointer (some ⟨z + 3, 0, none⟩)]] 63 (0, 0)
    rwa [World.size_alloc] at h
  have hB6 := HBx.out.keep (KpC.of_below hb6)
  have hst := nodesB_stops 3 (by omega) (z + 4) (z + 4 + 1) w6.heap.size w6 p L many hLl (fun u hu => hB6.cells.keep (KpC.of_below hu)) z (z + 1 + 1) (z + 1) (z + 3) (borderH g L c)
    (fun u hu k hk => border2_any z (z + 1 + 1) (z + 1) (z + 3) n p g L many c k u hok HLn.out hal hk (hB6.keep (KpC.of_below hu))) w6 (Below.refl _ _) (Nat.le_refl _) k4 k5
  have hCo := collect_core 5 (by omega) 51 #[.pointer (some ⟨z + 4, 0, none⟩), .pointer (some ⟨z + 4 + 1, 0, none⟩)] (borderV g L c) L.length hLl (KpN w6.heap.size (z + 4) (z + 4 + 1)) w6
    (fun Lb J Jx W hbW hJ hJx hY h0 => by
      refine (hst Lb J Jx W hbW hJ hJx hY h0).mono ?_
      rintro e W' ⟨h1, h2 | ⟨pre, _, h2⟩⟩
      · exact ⟨h1, .inl h2⟩
      · exact ⟨h1, .inr ⟨pre, trivial, h2⟩⟩) (enters_of Tryd.func51 (by kernel_rfl) rfl) KpN.trans (fun A B hAB _ => ⟨hAB, hAB.block _ (by omega), hAB.block _ (by omega)⟩)
  have HCo := Lib.hid (callsIn_wide.1 hCo); have HB6 := Lib.hid (HB5.out.next' hb6)
  clear hw6 hb6 hs6 k4 k5 hB6 hst hCo
  go_wp2_with fail
  refine HCo.out.mono ?_
  rintro e w7 ⟨v, rfl, ho, hb⟩
  have H7 := Lib.hid (And.intro (ownsRow_le ho HB6.out.size) (HB6.out.next' hb))
  clear ho hb HCo
  go_wp2_with fail
  go_ret
  exact ⟨v, rfl, H7.out.1, H7.out.2⟩
end Go.Proofs.YtjobijmmjebpaaaDoor
