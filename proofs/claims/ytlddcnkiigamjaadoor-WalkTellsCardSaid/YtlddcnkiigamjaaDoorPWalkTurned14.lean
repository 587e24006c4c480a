/- Texts of the law WalkTurned, merged: GridWorks, GridOrdP. -/
import Derived.Test.YtlddcnkiigamjaaDoorPWalkTurned13
import Derived.Test.YtlddcnkiigamjaaDoorPWalkTurned08
import Derived.Test.YtlddcnkiigamjaaDoorPWalkTurned10
/- the grid laws' works, and what they share. -/
namespace Go.Proofs.YtlddcnkiigamjaaDoor
open Go.RowKit
theorem ShapeOf.uniq {c R C R' C' : Nat} (h : ShapeOf c R C) (h' : ShapeOf c R' C') : R = R' ∧ C = C' := by
  have e : R = R' := by
    rcases Nat.lt_trichotomy R R' with g | g | g
    · have := Nat.mul_le_mul (show R + 1 ≤ R' by omega) (show R + 1 ≤ R' by omega); have := h.high; have := h'.low; omega
    · exact g
    · have := Nat.mul_le_mul (show R' + 1 ≤ R by omega) (show R' + 1 ≤ R by omega); have := h'.high; have := h.low; omega
  exact ⟨e, by rw [h.col, h'.col, e]⟩
set_option maxHeartbeats 1000000 in
theorem shape_yes (c R C : Nat) (hc : 1 ≤ c ∧ c ≤ 256) (h : ShapeOf c R C) (w : World) : Calls Tryd.prog 17 #[.int .i64 (c : Nat), .int .i64 (R : Nat), .int .i64 (C : Nat)] w fun e w' => e = .returned (.bool true) ∧ Below w.heap.size w w' := by
  go_enter Tryd.func17, Tryd.ntmps17
  go_wp2_with fail
  refine (shape_any c hc _).mono ?_
  rintro e w' ⟨R', C', rfl, h', hb⟩
  obtain ⟨rfl, rfl⟩ := h.uniq h'
  have Hb := Lib.hid hb
  clear hb h h'
  go_wp2_with fail
  go_ret
  exact ⟨rfl, Hb.out⟩
set_option maxHeartbeats 1000000 in
theorem shape_no (c : Int) (hc : c < 1 ∨ 256 < c) (w : World) : Calls Tryd.prog 17 #[.int .i64 c, .int .i64 0, .int .i64 0] w fun e w' => e = .returned (.bool true) ∧ w' = w := by
  go_enter Tryd.func17, Tryd.ntmps17
  go_wp2_with fail
  refine (shape_none c hc _).mono ?_
  rintro e w' ⟨rfl, rfl⟩
  go_wp2_with fail
  go_ret
  exact ⟨rfl, rfl⟩
theorem placedV_ok (X Y : List Int) : (placedV X Y).Ok := by
  have h := placedN_le X Y
  refine ⟨⟨by show (1 : Int) ≤ (placedN X Y : Nat); omega, by show ((placedN X Y : Nat) : Int) ≤ _; omega⟩, by simp [placedV], by simp [placedV], fun x hx => ?_, fun x hx => ?_, by simp [placedV], fun a ha => by simp [placedV] at ha⟩
  · obtain ⟨i, _, rfl⟩ := List.mem_map.1 hx; have := placedE_le X Y X i; exact ⟨this.1, by omega⟩
  · obtain ⟨i, _, rfl⟩ := List.mem_map.1 hx; have := placedE_le X Y Y i; exact ⟨this.1, by omega⟩
theorem placedV_few (X Y : List Int) : (placedV X Y).few := by
  have h := placedN_le X Y
  refine ⟨?_, ?_, ?_⟩ <;> simp [placedV] <;> omega
/-- the cells of a net's nodes -/
def mapNet (g : Raw) (R C : Nat) : List Int := mapV g.nodes.toNat (fun k => (atI g.X k, atI g.Y k)) R C
theorem map_net (p : Nat) (g : Raw) (c : Nat) (hc : 1 ≤ c ∧ c ≤ 256) (hok : g.Ok) (hs : g.nodes ≤ 1000) (w : World) (h : NetAt w p g) : Calls Tryd.prog 14 #[.pointer (some ⟨p, 0, none⟩), .int .i64 (c : Nat)] w fun e w' =>
    ∃ a cp R C, ShapeOf c R C ∧ e = .returned (.slice a (mapNet g R C).length cp) ∧ SlX w' (.slice a (mapNet g R C).length cp) (mapNet g R C) ∧ Below w.heap.size w w' := by
  have hb : ∀ (L : List Int), (∀ x ∈ L, coordOk x) → ∀ i : Int, -2147483648 ≤ atI L i ∧ atI L i ≤ 2147483647 := fun L hL i => by
    unfold atI
    split
    · rw [List.getElem?_eq_getElem (by omega)]
      have := hL _ (List.getElem_mem (show i.toNat < L.length by omega))
      unfold coordOk at this
      simp only [Option.getD_some]; omega
    · omega
  refine ((callsIn_wide (n := 5)).1 (map_of 5 (by omega) (some ⟨p, 0, none⟩) c hc w g.nodes.toNat _ (placesOf_net w p g h hok) (by omega) fun k _ => ⟨hb g.X hok.x k, hb g.Y hok.y k⟩)).mono ?_
  rintro e w' ⟨v, R, C, hS, rfl, ho, hb⟩
  have hs := slX_own rfl ho
  obtain ⟨a, cp, rfl, _⟩ := id hs
  exact ⟨a, cp, R, C, hS, rfl, hs, hb⟩
theorem map_nil (c : Nat) (hc : 1 ≤ c ∧ c ≤ 256) (w : World) : Calls Tryd.prog 14 #[.pointer none, .int .i64 (c : Nat)] w fun e w' => ∃ a cp, e = .returned (.slice a 0 cp) ∧ Below w.heap.size w w' := by
  refine ((callsIn_wide (n := 5)).1 (map_of 5 (by omega) none c hc w 0 _ (placesOf_nil w) (by omega) fun k hk => absurd hk (Nat.not_lt_zero k))).mono ?_
  rintro e w' ⟨v, R, C, hS, rfl, ho, hb⟩
  have hl : (mapV 0 (fun _ => ((0 : Int), (0 : Int))) R C).length = 0 := by simp [mapV]
  rw [hl] at ho
  obtain ⟨a, cp, rfl, _⟩ := ownForm ho
  exact ⟨a, cp, rfl, hb⟩
/-- the cells are just these -/
theorem map_is (p : Nat) (X Y : List Int) (c R C : Nat) (L : List Int) (hc : 1 ≤ c ∧ c ≤ 256) (hS : ShapeOf c R C) (hL : mapNet (placedV X Y) R C = L) (w : World) (h : NetAt w p (placedV X Y)) : Calls Tryd.prog 14 #[.pointer (some ⟨p, 0, none⟩), .int .i64 (c : Nat)] w fun e w' =>
    ∃ a cp, e = .returned (.slice a L.length cp) ∧ SlX w' (.slice a L.length cp) L ∧ Below w.heap.size w w' := by
  have hn := placedN_le X Y
  refine (map_net p (placedV X Y) c hc (placedV_ok X Y) (by show ((placedN X Y : Nat) : Int) ≤ _; omega) w h).mono ?_
  rintro e w' ⟨a, cp, R', C', hS', rfl, hs, hb⟩
  obtain ⟨rfl, rfl⟩ := hS.uniq hS'
  rw [hL] at hs ⊢
  exact ⟨a, cp, rfl, hs, hb⟩
theorem new_placed (v : Value) (X Y : List Int) (w : World) (hg : HG w) (h : RawV w v (placedV X Y)) : Calls Tryd.prog 12 #[v] w fun e w' => ∃ p, e = .returned (.tuple #[.pointer (some ⟨p, 0, none⟩), .nilIface]) ∧ NetAt w' p (placedV X Y) ∧ Below w.heap.size w w' := by
  refine (new_any v _ w hg h (placedV_few X Y)).mono ?_
  rintro e w' ⟨⟨hk, _⟩ | ⟨_, p, rfl, hn⟩, hb⟩
  · exact absurd ((Raw.ok_iff _).2 (placedV_ok X Y)) hk
  · exact ⟨p, rfl, hn.at, hb⟩
example : mapNet (placedV [0, 9, 5, 4] [0, 0, 9, 4]) 2 2 = [0, 1, 3, 0] := by decide +kernel
example : mapNet (placedV [7, 7, 7] [-2, -2, -2]) 1 2 = [0, 0, 0] := by decide +kernel
example : mapNet (placedV [-2147483648, 2147483647, 0, -1] [2147483647, -2147483648, 0, -1]) 16 16 = [240, 15, 136, 119] := by decide +kernel
end Go.Proofs.YtlddcnkiigamjaaDoor
/- GridOrder, in plain words: which cells nodes are in. -/
namespace Go.Proofs.YtlddcnkiigamjaaDoor
open Go.RowKit
/-- nodes' places and cells -/
structure OrdF (N R C : Nat) (xf yf lf rf cf : Nat → Int) : Prop where
  hl : ∀ k, k < N → lf k = rf k * C + cf k ∧ (0 ≤ rf k ∧ rf k < R) ∧ (0 ≤ cf k ∧ cf k < C)
  mx : ∀ u v, u < N → v < N → xf u ≤ xf v → cf u ≤ cf v
  my : ∀ u v, u < N → v < N → yf u ≤ yf v → rf u ≤ rf v
  fst : ∀ v, v < N → (∀ u, u < N → xf v ≤ xf u) → cf v = 0
  lst : ∀ v, v < N → (∀ u, u < N → xf u ≤ xf v) → (¬ ∀ u, u < N → xf v ≤ xf u) → 2 ≤ C → 1 ≤ cf v
theorem ordF_of (X Y : List Int) (c R C : Nat) (hS : ShapeOf c R C) : (mapNet (placedV X Y) R C).length = placedN X Y ∧ (placedV X Y).X.length = placedN X Y ∧ (placedV X Y).Y.length = placedN X Y ∧
    ∃ rf cf, OrdF (placedN X Y) R C (fun k => (placedV X Y).X[k]?.getD 0) (fun k => (placedV X Y).Y[k]?.getD 0) (fun k => (mapNet (placedV X Y) R C)[k]?.getD 0) rf cf := by
  obtain ⟨g, hg⟩ : ∃ g, g = placedV X Y := ⟨_, rfl⟩
  obtain ⟨N, hN⟩ : ∃ N, N = placedN X Y := ⟨_, rfl⟩
  rw [← hg, ← hN]
  have hNn : g.nodes.toNat = N := by rw [hg, hN]; rfl
  have hx : g.X.length = N := by rw [hg, hN]; simp [placedV]
  have hy : g.Y.length = N := by rw [hg, hN]; simp [placedV]
  have hSf := hS.facts
  have hfx : ∀ k, k < N → atI g.X (k : Nat) = g.X[k]?.getD 0 := fun k hk => by unfold atI; rw [if_pos (by omega)]; rfl
  have hfy : ∀ k, k < N → atI g.Y (k : Nat) = g.Y[k]?.getD 0 := fun k hk => by unfold atI; rw [if_pos (by omega)]; rfl
  have hm : mapNet g R C = (List.finRange N).map fun (k : Fin N) => cellOf (endsV ((List.finRange N).map fun (k : Fin N) => atI g.X (k : Nat))) (endsV ((List.finRange N).map fun (k : Fin N) => atI g.Y (k : Nat))) R C (atI g.X (k : Nat), atI g.Y (k : Nat)) := by
    unfold mapNet
    rw [hNn]
    rfl
  obtain ⟨ex, hex⟩ : ∃ e, e = endsV ((List.finRange N).map fun (k : Fin N) => atI g.X (k : Nat)) := ⟨_, rfl⟩
  obtain ⟨ey, hey⟩ : ∃ e, e = endsV ((List.finRange N).map fun (k : Fin N) => atI g.Y (k : Nat)) := ⟨_, rfl⟩
  rw [← hex, ← hey] at hm
  have inx : ∀ k, k < N → (ex.getD (0, 0)).1 ≤ g.X[k]?.getD 0 ∧ g.X[k]?.getD 0 ≤ (ex.getD (0, 0)).2 ∧ (∃ i, i < N ∧ g.X[i]?.getD 0 = (ex.getD (0, 0)).1) ∧ (∃ i, i < N ∧ g.X[i]?.getD 0 = (ex.getD (0, 0)).2) := fun k hk => by
    have h := ends_in (L := (List.finRange N).map fun (k : Fin N) => atI g.X (k : Nat)) (x := atI g.X (k : Nat)) (List.mem_map.2 ⟨⟨k, hk⟩, List.mem_finRange _, rfl⟩)
    rw [← hex, hfx k hk] at h
    obtain ⟨h1, h2, h3, h4⟩ := h
    obtain ⟨i, _, e3⟩ := List.mem_map.1 h3
    obtain ⟨j, _, e4⟩ := List.mem_map.1 h4
    rw [hfx i i.2] at e3; rw [hfx j j.2] at e4
    exact ⟨h1, h2, ⟨i, i.2, e3⟩, ⟨j, j.2, e4⟩⟩
  have iny : ∀ k, k < N → (ey.getD (0, 0)).1 ≤ g.Y[k]?.getD 0 ∧ g.Y[k]?.getD 0 ≤ (ey.getD (0, 0)).2 := fun k hk => by
    have h := ends_in (L := (List.finRange N).map fun (k : Fin N) => atI g.Y (k : Nat)) (x := atI g.Y (k : Nat)) (List.mem_map.2 ⟨⟨k, hk⟩, List.mem_finRange _, rfl⟩)
    rw [← hey, hfy k hk] at h
    exact ⟨h.1, h.2.1⟩
  refine ⟨by rw [hm]; simp, hx, hy, fun k => partV (ey.getD (0, 0)).1 (ey.getD (0, 0)).2 R (g.Y[k]?.getD 0), fun k => partV (ex.getD (0, 0)).1 (ex.getD (0, 0)).2 C (g.X[k]?.getD 0), fun k hk => ?_, fun u v hu hv h => ?_, fun u v hu hv h => ?_, fun v hv h => ?_, fun v hv h1 h2 h3 => ?_⟩
  · have h1 := inx k hk; have h2 := iny k hk
    refine ⟨?_, part_range ⟨h2.1, h2.2⟩ (by have := hS.pos; omega), part_range ⟨h1.1, h1.2.1⟩ (by omega)⟩
    rw [hm, List.getElem?_map, List.getElem?_eq_getElem (by simpa using hk)]
    simp only [Option.map_some, Option.getD_some, List.getElem_finRange, cellOf]
    rw [← hfx k hk, ← hfy k hk]
    rfl
  · have h1 := inx u hu; exact part_mono (by omega) (by omega) h
  · have h1 := iny u hu; exact part_mono (by omega) (by have := hS.pos; omega) h
  · obtain ⟨h1, _, ⟨i, hi, e⟩, _⟩ := inx v hv
    have := h i hi
    show partV _ _ _ _ = 0
    rw [show g.X[v]?.getD 0 = (ex.getD (0, 0)).1 by omega]
    exact part_least _ _ _
  · obtain ⟨_, g2, _, ⟨j, hj, ej⟩⟩ := inx v hv
    have q1 := h1 j hj
    show 1 ≤ partV _ _ _ _
    have hv2 : g.X[v]?.getD 0 = (ex.getD (0, 0)).2 := by omega
    rw [hv2]
    refine part_most ?_ (by omega)
    rcases Int.lt_or_le (ex.getD (0, 0)).1 (ex.getD (0, 0)).2 with q | q
    · exact q
    · exact absurd (fun u hu => by have := inx u hu; omega) h2
/-- whether all of the first k are so -/
def allK (p : Nat → Bool) (k : Nat) : Bool := (List.range k).all p
theorem allK_succ (p : Nat → Bool) (k : Nat) : allK p (k + 1) = (allK p k && p k) := by unfold allK; rw [List.range_succ, List.all_append]; simp
theorem allK_true {p : Nat → Bool} {k : Nat} (h : allK p k = true) : ∀ u, u < k → p u = true := fun u hu => List.all_eq_true.1 h u (List.mem_range.2 hu)
theorem allK_false {p : Nat → Bool} {k : Nat} (h : allK p k = false) : ¬ ∀ u, u < k → p u = true := fun hh => by
  have : allK p k = true := List.all_eq_true.2 fun u hu => hh u (List.mem_range.1 hu)
  rw [h] at this; cases this
theorem slX_cells {w : World} {a : Option Addr} {n cap : Nat} {L : List Int} (h : SlX w (.slice a n cap) L) (hl : 0 < L.length) : ∃ b o, a = some ⟨b, o, none⟩ ∧ ∀ k, k < L.length → w.cell? ⟨b, o + k, none⟩ = some (.int .i64 (L[k]?.getD 0)) := by
  obtain ⟨b, o, e, _⟩ := h.at 0 hl
  refine ⟨b, o, e, fun k hk => ?_⟩
  obtain ⟨b', o', e', hc⟩ := h.at k hk
  obtain ⟨rfl, rfl⟩ : b = b' ∧ o = o' := by rw [e] at e'; simpa using e'
  rw [hc, List.getElem?_eq_getElem hk]; rfl
end Go.Proofs.YtlddcnkiigamjaaDoor
