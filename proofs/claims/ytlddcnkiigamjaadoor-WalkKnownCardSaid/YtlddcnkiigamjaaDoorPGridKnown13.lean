/- Texts of the law GridKnown, merged: GridWorks, GridWork, GridKnown, LawKitD. -/
import Derived.Test.YtlddcnkiigamjaaDoorPGridKnown12
import Derived.Test.YtlddcnkiigamjaaDoorPGridKnown07
import Derived.Test.YtlddcnkiigamjaaDoorPGridKnown09
import Derived.Test.YtlddcnkiigamjaaDoorPGridKnown11
import Derived.Test.YtlddcnkiigamjaaDoorPGridKnown03
import Derived.ChangeSame
import Derived.ChangeVars
import Derived.JoinedOf
import Derived.RowKit
import Derived.RowKitTokens
import Derived.LaidLaws
import Derived.LaidHandle
import Derived.Stop.Joined
/- the grid laws' works, and what they share. -/
namespace Go.Proofs.YtlddcnkiigamjaaDoor
open Go.RowKit
theorem ShapeOf.uniq {c R C R' C' : Nat} (h : ShapeOf c R C) (h' : ShapeOf c R' C') : R = R' ∧ C = C' := by
  have e : R = R' := by
    rcases Nat.lt_trichotomy R R' with g | g | g
    · have := Nat.mul_le_mul (show R + 1 ≤ R' by omega) (show R + 1 ≤ R' by omega); have := h.high; have := h'.low; omega
    · exact g
    · have := Nat.mul_le_mul (show R' + 1 ≤ R by omega) (show R' + 1 ≤ R by omega); have := h'.high; have := h.low; omega
  exact ⟨e, by rw [h.col, h'.col, e]⟩
set_option maxHeartbeats 1000000 in
theorem shape_yes (c R C : Nat) (hc : 1 ≤ c ∧ c ≤ 256) (h : ShapeOf c R C) (w : World) : Calls Tryd.prog 17 #[.int .i64 (c : Nat), .int .i64 (R : Nat), .int .i64 (C : Nat)] w fun e w' => e = .returned (.bool true) ∧ Below w.heap.size w w' := by
  go_enter Tryd.func17, Tryd.ntmps17
  go_wp2_with fail
  refine (shape_any c hc _).mono ?_
  rintro e w' ⟨R', C', rfl, h', hb⟩
  obtain ⟨rfl, rfl⟩ := h.uniq h'
  have Hb := Lib.hid hb
  clear hb h h'
  go_wp2_with fail
  go_ret
  exact ⟨rfl, Hb.out⟩
set_option maxHeartbeats 1000000 in
theorem shape_no (c : Int) (hc : c < 1 ∨ 256 < c) (w : World) : Calls Tryd.prog 17 #[.int .i64 c, .int .i64 0, .int .i64 0] w fun e w' => e = .returned (.bool true) ∧ w' = w := by
  go_enter Tryd.func17, Tryd.ntmps17
  go_wp2_with fail
  refine (shape_none c hc _).mono ?_
  rintro e w' ⟨rfl, rfl⟩
  go_wp2_with fail
  go_ret
  exact ⟨rfl, rfl⟩
theorem placedV_ok (X Y : List Int) : (placedV X Y).Ok := by
  have h := placedN_le X Y
  refine ⟨⟨by show (1 : Int) ≤ (placedN X Y : Nat); omega, by show ((placedN X Y : Nat) : Int) ≤ _; omega⟩, by simp [placedV], by simp [placedV], fun x hx => ?_, fun x hx => ?_, by simp [placedV], fun a ha => by simp [placedV] at ha⟩
  · obtain ⟨i, _, rfl⟩ := List.mem_map.1 hx; have := placedE_le X Y X i; exact ⟨this.1, by omega⟩
  · obtain ⟨i, _, rfl⟩ := List.mem_map.1 hx; have := placedE_le X Y Y i; exact ⟨this.1, by omega⟩
theorem placedV_few (X Y : List Int) : (placedV X Y).few := by
  have h := placedN_le X Y
  refine ⟨?_, ?_, ?_⟩ <;> simp [placedV] <;> omega
/-- the cells of a net's nodes -/
def mapNet (g : Raw) (R C : Nat) : List Int := mapV g.nodes.toNat (fun k => (atI g.X k, atI g.Y k)) R C
theorem map_net (p : Nat) (g : Raw) (c : Nat) (hc : 1 ≤ c ∧ c ≤ 256) (hok : g.Ok) (hs : g.nodes ≤ 1000) (w : World) (h : NetAt w p g) : Calls Tryd.prog 14 #[.pointer (some ⟨p, 0, none⟩), .int .i64 (c : Nat)] w fun e w' =>
    ∃ a cp R C, ShapeOf c R C ∧ e = .returned (.slice a (mapNet g R C).length cp) ∧ SlX w' (.slice a (mapNet g R C).length cp) (mapNet g R C) ∧ Below w.heap.size w w' := by
  have hb : ∀ (L : List Int), (∀ x ∈ L, coordOk x) → ∀ i : Int, -2147483648 ≤ atI L i ∧ atI L i ≤ 2147483647 := fun L hL i => by
    unfold atI
    split
    · rw [List.getElem?_eq_getElem (by omega)]
      have := hL _ (List.getElem_mem (show i.toNat < L.length by omega))
      unfold coordOk at this
      simp only [Option.getD_some]; omega
    · omega
  refine ((callsIn_wide (n := 5)).1 (map_of 5 (by omega) (some ⟨p, 0, none⟩) c hc w g.nodes.toNat _ (placesOf_net w p g h hok) (by omega) fun k _ => ⟨hb g.X hok.x k, hb g.Y hok.y k⟩)).mono ?_
  rintro e w' ⟨v, R, C, hS, rfl, ho, hb⟩
  have hs := slX_own rfl ho
  obtain ⟨a, cp, rfl, _⟩ := id hs
  exact ⟨a, cp, R, C, hS, rfl, hs, hb⟩
theorem map_nil (c : Nat) (hc : 1 ≤ c ∧ c ≤ 256) (w : World) : Calls Tryd.prog 14 #[.pointer none, .int .i64 (c : Nat)] w fun e w' => ∃ a cp, e = .returned (.slice a 0 cp) ∧ Below w.heap.size w w' := by
  refine ((callsIn_wide (n := 5)).1 (map_of 5 (by omega) none c hc w 0 _ (placesOf_nil w) (by omega) fun k hk => absurd hk (Nat.not_lt_zero k))).mono ?_
  rintro e w' ⟨v, R, C, hS, rfl, ho, hb⟩
  have hl : (mapV 0 (fun _ => ((0 : Int), (0 : Int))) R C).length = 0 := by simp [mapV]
  rw [hl] at ho
  obtain ⟨a, cp, rfl, _⟩ := ownForm ho
  exact ⟨a, cp, rfl, hb⟩
/-- the cells are just these -/
theorem map_is (p : Nat) (X Y : List Int) (c R C : Nat) (L : List Int) (hc : 1 ≤ c ∧ c ≤ 256) (hS : ShapeOf c R C) (hL : mapNet (placedV X Y) R C = L) (w : World) (h : NetAt w p (placedV X Y)) : Calls Tryd.prog 14 #[.pointer (some ⟨p, 0, none⟩), .int .i64 (c : Nat)] w fun e w' =>
    ∃ a cp, e = .returned (.slice a L.length cp) ∧ SlX w' (.slice a L.length cp) L ∧ Below w.heap.size w w' := by
  have hn := placedN_le X Y
  refine (map_net p (placedV X Y) c hc (placedV_ok X Y) (by show ((placedN X Y : Nat) : Int) ≤ _; omega) w h).mono ?_
  rintro e w' ⟨a, cp, R', C', hS', rfl, hs, hb⟩
  obtain ⟨rfl, rfl⟩ := hS.uniq hS'
  rw [hL] at hs ⊢
  exact ⟨a, cp, rfl, hs, hb⟩
theorem new_placed (v : Value) (X Y : List Int) (w : World) (hg : HG w) (h : RawV w v (placedV X Y)) : Calls Tryd.prog 12 #[v] w fun e w' => ∃ p, e = .returned (.tuple #[.pointer (some ⟨p, 0, none⟩), .nilIface]) ∧ NetAt w' p (placedV X Y) ∧ Below w.heap.size w w' := by
  refine (new_any v _ w hg h (placedV_few X Y)).mono ?_
  rintro e w' ⟨⟨hk, _⟩ | ⟨_, p, rfl, hn⟩, hb⟩
  · exact absurd ((Raw.ok_iff _).2 (placedV_ok X Y)) hk
  · exact ⟨p, rfl, hn.at, hb⟩
example : mapNet (placedV [0, 9, 5, 4] [0, 0, 9, 4]) 2 2 = [0, 1, 3, 0] := by decide +kernel
example : mapNet (placedV [7, 7, 7] [-2, -2, -2]) 1 2 = [0, 0, 0] := by decide +kernel
example : mapNet (placedV [-2147483648, 2147483647, 0, -1] [2147483647, -2147483648, 0, -1]) 16 16 = [240, 15, 136, 119] := by decide +kernel
end Go.Proofs.YtlddcnkiigamjaaDoor
/- the grid laws' works. -/
namespace Go.Proofs.YtlddcnkiigamjaaDoor
open Go.RowKit
set_option maxRecDepth 100000 in
set_option maxHeartbeats 8000000 in
theorem works21_any (w : World) (hg : HG w) : Calls Tryd.prog 10 #[] w fun e w' => e = .returned (.bool true) ∧ Below w.heap.size w w' := by
  have HG0 := Lib.hid hg
  clear hg
  obtain ⟨wa, hwa⟩ : ∃ u, u = (w.alloc (.cells #[.int .i64 0, .int .i64 9, .int .i64 5, .int .i64 4] 2)).alloc (.cells #[.int .i64 0, .int .i64 0, .int .i64 9, .int .i64 4] 2) := ⟨_, rfl⟩
  have hbwa : Below w.heap.size w wa := by rw [hwa]; exact ((Below.refl _ _).alloc (Nat.le_refl _) _).alloc (by simp) _
  have kxwa : SlX wa (.slice (some ⟨w.heap.size, 0, none⟩) 4 4) [0, 9, 5, 4] := by rw [hwa]; exact slX_new ((Blk.new _ _ _ _).alloc _) rfl rfl (by decide)
  have kywa : SlX wa (.slice (some ⟨w.heap.size + 1, 0, none⟩) 4 4) [0, 0, 9, 4] := by
    rw [hwa]
    have h := Blk.new (w.alloc (.cells #[.int .i64 0, .int .i64 9, .int .i64 5, .int .i64 4] 2)) #[.int .i64 0, .int .i64 0, .int .i64 9, .int .i64 4] 2 (0, 0)
    rw [World.size_alloc] at h
    exact slX_new h rfl rfl (by decide)
  have HCwa := Lib.hid (placed_any _ _ _ _ _ kxwa kywa); have HBwa := Lib.hid hbwa; have HWwa := Lib.hid hwa
  clear hwa hbwa kxwa kywa
  go_enter Tryd.func10, Tryd.ntmps10
  go_wp2_with fail
  rw [← HWwa.out]
  refine HCwa.out.mono ?_
  rintro e wb ⟨v, rfl, hr, hb⟩
  have HBwb := Lib.hid (HBwa.out.next' hb)
  obtain ⟨ux, uy, uz, rfl, _⟩ := id hr
  have HCn := Lib.hid (new_placed _ [0, 9, 5, 4] [0, 0, 9, 4] wb (HG0.out.later (HBwb.out)) hr.raw)
  clear hr hb HCwa HWwa HBwa
  go_wp2_with fail
  refine HCn.out.mono ?_
  rintro e wc ⟨p, rfl, hn, hb⟩
  have HBwc := Lib.hid (HBwb.out.next' hb); have HNp := Lib.hid hn
  clear hn hb HCn HBwb
  obtain ⟨wd, hwd⟩ : ∃ u, u = (wc.alloc (.cells #[.int .i64 7, .int .i64 7, .int .i64 7] 2)).alloc (.cells #[.int .i64 (-2), .int .i64 (-2), .int .i64 (-2)] 2) := ⟨_, rfl⟩
  have hbwd : Below wc.heap.size wc wd := by rw [hwd]; exact ((Below.refl _ _).alloc (Nat.le_refl _) _).alloc (by simp) _
  have kxwd : SlX wd (.slice (some ⟨wc.heap.size, 0, none⟩) 3 3) [7, 7, 7] := by rw [hwd]; exact slX_new ((Blk.new _ _ _ _).alloc _) rfl rfl (by decide)
  have kywd : SlX wd (.slice (some ⟨wc.heap.size + 1, 0, none⟩) 3 3) [-2, -2, -2] := by
    rw [hwd]
    have h := Blk.new (wc.alloc (.cells #[.int .i64 7, .int .i64 7, .int .i64 7] 2)) #[.int .i64 (-2), .int .i64 (-2), .int .i64 (-2)] 2 (0, 0)
    rw [World.size_alloc] at h
    exact slX_new h rfl rfl (by decide)
  have HCwd := Lib.hid (placed_any _ _ _ _ _ kxwd kywd); have HBwd := Lib.hid hbwd; have HWwd := Lib.hid hwd
  clear hwd hbwd kxwd kywd
  have HBwd' := Lib.hid (HBwc.out.next' HBwd.out)
  have HNp' := Lib.hid (HNp.out.keep (KpC.of_below HBwd.out)); clear HNp; have HNp := HNp'; clear HNp' HBwd HBwc
  have HBwd := HBwd'; clear HBwd'
  go_wp2_with fail
  rw [← HWwd.out]
  refine HCwd.out.mono ?_
  rintro e we ⟨v, rfl, hr, hb⟩
  have HBwe := Lib.hid (HBwd.out.next' hb)
  have hp := HNp.out.keep (KpC.of_below hb); clear HNp; have HNp := Lib.hid hp; clear hp
  obtain ⟨ux, uy, uz, rfl, _⟩ := id hr
  have HCn := Lib.hid (new_placed _ [7, 7, 7] [-2, -2, -2] we (HG0.out.later (HBwe.out)) hr.raw)
  clear hr hb HCwd HWwd HBwd
  go_wp2_with fail
  refine HCn.out.mono ?_
  rintro e wf ⟨q, rfl, hn, hb⟩
  have hp := HNp.out.keep (KpC.of_below hb); clear HNp; have HNp := Lib.hid hp; clear hp
  have HBwf := Lib.hid (HBwe.out.next' hb); have HNq := Lib.hid hn
  clear hn hb HCn HBwe
  go_wp2_with fail
  refine (shape_yes 1 1 1 (by decide) ⟨by decide, by decide, by decide, by decide⟩ wf).mono ?_
  rintro e ws0 ⟨rfl, hb⟩
  have HBws0 := Lib.hid (HBwf.out.next' hb)
  have hp := HNp.out.keep (KpC.of_below hb); clear HNp; have HNp := Lib.hid hp; clear hp
  have hq := HNq.out.keep (KpC.of_below hb); clear HNq; have HNq := Lib.hid hq; clear hq
  clear hb HBwf
  go_wp2_with fail
  refine (shape_yes 2 1 2 (by decide) ⟨by decide, by decide, by decide, by decide⟩ ws0).mono ?_
  rintro e ws1 ⟨rfl, hb⟩
  have HBws1 := Lib.hid (HBws0.out.next' hb)
  have hp := HNp.out.keep (KpC.of_below hb); clear HNp; have HNp := Lib.hid hp; clear hp
  have hq := HNq.out.keep (KpC.of_below hb); clear HNq; have HNq := Lib.hid hq; clear hq
  clear hb HBws0
  go_wp2_with fail
  refine (shape_yes 7 2 3 (by decide) ⟨by decide, by decide, by decide, by decide⟩ ws1).mono ?_
  rintro e ws2 ⟨rfl, hb⟩
  have HBws2 := Lib.hid (HBws1.out.next' hb)
  have hp := HNp.out.keep (KpC.of_below hb); clear HNp; have HNp := Lib.hid hp; clear hp
  have hq := HNq.out.keep (KpC.of_below hb); clear HNq; have HNq := Lib.hid hq; clear hq
  clear hb HBws1
  go_wp2_with fail
  refine (shape_yes 12 3 4 (by decide) ⟨by decide, by decide, by decide, by decide⟩ ws2).mono ?_
  rintro e ws3 ⟨rfl, hb⟩
  have HBws3 := Lib.hid (HBws2.out.next' hb)
  have hp := HNp.out.keep (KpC.of_below hb); clear HNp; have HNp := Lib.hid hp; clear hp
  have hq := HNq.out.keep (KpC.of_below hb); clear HNq; have HNq := Lib.hid hq; clear hq
  clear hb HBws2
  go_wp2_with fail
  refine (shape_yes 256 16 16 (by decide) ⟨by decide, by decide, by decide, by decide⟩ ws3).mono ?_
  rintro e ws4 ⟨rfl, hb⟩
  have HBws4 := Lib.hid (HBws3.out.next' hb)
  have hp := HNp.out.keep (KpC.of_below hb); clear HNp; have HNp := Lib.hid hp; clear hp
  have hq := HNq.out.keep (KpC.of_below hb); clear HNq; have HNq := Lib.hid hq; clear hq
  clear hb HBws3
  go_wp2_with fail
  refine (shape_no 0 (by omega) ws4).mono ?_
  rintro e ws4 ⟨rfl, rfl⟩
  go_wp2_with fail
  refine (shape_no 257 (by omega) ws4).mono ?_
  rintro e ws4 ⟨rfl, rfl⟩
  go_wp2_with fail
  refine (map_is p [0, 9, 5, 4] [0, 0, 9, 4] 4 2 2 [0, 1, 3, 0] (by decide) ⟨by decide, by decide, by decide, by decide⟩ (by decide +kernel) ws4 HNp.out).mono ?_
  rintro e wm ⟨a, cp, rfl, hs, hb⟩
  have HBwm := Lib.hid (HBws4.out.next' hb)
  have hp := HNp.out.keep (KpC.of_below hb); clear HNp; have HNp := Lib.hid hp; clear hp
  have hq := HNq.out.keep (KpC.of_below hb); clear HNq; have HNq := Lib.hid hq; clear hq
  obtain ⟨wl, hwl⟩ : ∃ u, u = wm.alloc (.cells #[.int .i64 0, .int .i64 1, .int .i64 3, .int .i64 0] 3) := ⟨_, rfl⟩
  have hbl : Below wm.heap.size wm wl := by rw [hwl]; exact (Below.refl _ _).alloc (Nat.le_refl _) _
  have kl : SlX wl (.slice (some ⟨wm.heap.size, 0, none⟩) 4 4) [0, 1, 3, 0] := by rw [hwl]; exact slX_new (Blk.new _ _ _ _) rfl rfl (by decide)
  have HCi := Lib.hid (ints_any _ _ _ _ _ (hs.keep (KpC.of_below hbl)) kl); have HWl := Lib.hid hwl; have HBl := Lib.hid (HBwm.out.next' hbl)
  have hp := HNp.out.keep (KpC.of_below hbl); clear HNp; have HNp := Lib.hid hp; clear hp
  have hq := HNq.out.keep (KpC.of_below hbl); clear HNq; have HNq := Lib.hid hq; clear hq
  clear hs hb hbl kl hwl HBwm HBws4
  go_wp2_with fail
  rw [← HWl.out]
  refine HCi.out.mono ?_
  rintro e wmi ⟨rfl, hb⟩
  have HBwmi := Lib.hid (HBl.out.next' hb)
  have hp := HNp.out.keep (KpC.of_below hb); clear HNp; have HNp := Lib.hid hp; clear hp
  have hq := HNq.out.keep (KpC.of_below hb); clear HNq; have HNq := Lib.hid hq; clear hq
  clear hb HBl HCi HWl
  go_wp2_with fail
  refine (map_is q [7, 7, 7] [-2, -2, -2] 2 1 2 [0, 0, 0] (by decide) ⟨by decide, by decide, by decide, by decide⟩ (by decide +kernel) wmi HNq.out).mono ?_
  rintro e wo ⟨a, cp, rfl, hs, hb⟩
  have HBwo := Lib.hid (HBwmi.out.next' hb)
  obtain ⟨wl, hwl⟩ : ∃ u, u = wo.alloc (.cells #[.int .i64 0, .int .i64 0, .int .i64 0] 3) := ⟨_, rfl⟩
  have hbl : Below wo.heap.size wo wl := by rw [hwl]; exact (Below.refl _ _).alloc (Nat.le_refl _) _
  have kl : SlX wl (.slice (some ⟨wo.heap.size, 0, none⟩) 3 3) [0, 0, 0] := by rw [hwl]; exact slX_new (Blk.new _ _ _ _) rfl rfl (by decide)
  have HCi := Lib.hid (ints_any _ _ _ _ _ (hs.keep (KpC.of_below hbl)) kl); have HWl := Lib.hid hwl; have HBl := Lib.hid (HBwo.out.next' hbl)
  clear hs hb hbl kl hwl HBwo HBwmi
  go_wp2_with fail
  rw [← HWl.out]
  refine HCi.out.mono ?_
  rintro e woi ⟨rfl, hb⟩
  have HBwoi := Lib.hid (HBl.out.next' hb)
  clear hb HBl HCi HWl
  go_wp2_with fail
  go_ret
  exact ⟨by simp, HBwoi.out⟩
end Go.Proofs.YtlddcnkiigamjaaDoor
/- GridKnown, its walk. -/
namespace Go.Proofs.YtlddcnkiigamjaaDoor
open Go.RowKit
set_option maxRecDepth 100000 in
set_option maxHeartbeats 8000000 in
theorem gridKnown_any (w : World) (hg : HG w) : Calls Tryd.prog 4 #[] w fun e w' => e = .returned (.bool true) ∧ Below w.heap.size w w' := by
  have HG0 := Lib.hid hg
  clear hg
  obtain ⟨wa, hwa⟩ : ∃ u, u = (w.alloc (.cells #[.int .i64 (-2147483648), .int .i64 2147483647, .int .i64 0, .int .i64 (-1)] 2)).alloc (.cells #[.int .i64 2147483647, .int .i64 (-2147483648), .int .i64 0, .int .i64 (-1)] 2) := ⟨_, rfl⟩
  have hbwa : Below w.heap.size w wa := by rw [hwa]; exact ((Below.refl _ _).alloc (Nat.le_refl _) _).alloc (by simp) _
  have kxwa : SlX wa (.slice (some ⟨w.heap.size, 0, none⟩) 4 4) [-2147483648, 2147483647, 0, -1] := by rw [hwa]; exact slX_new ((Blk.new _ _ _ _).alloc _) rfl rfl (by decide)
  have kywa : SlX wa (.slice (some ⟨w.heap.size + 1, 0, none⟩) 4 4) [2147483647, -2147483648, 0, -1] := by
    rw [hwa]
    have h := Blk.new (w.alloc (.cells #[.int .i64 (-2147483648), .int .i64 2147483647, .int .i64 0, .int .i64 (-1)] 2)) #[.int .i64 2147483647, .int .i64 (-2147483648), .int .i64 0, .int .i64 (-1)] 2 (0, 0)
    rw [World.size_alloc] at h
    exact slX_new h rfl rfl (by decide)
  have HCwa := Lib.hid (placed_any _ _ _ _ _ kxwa kywa); have HBwa := Lib.hid hbwa; have HWwa := Lib.hid hwa
  clear hwa hbwa kxwa kywa
  go_enter Tryd.func4, Tryd.ntmps4
  go_wp2_with fail
  rw [← HWwa.out]
  refine HCwa.out.mono ?_
  rintro e wb ⟨v, rfl, hr, hb⟩
  have HBwb := Lib.hid (HBwa.out.next' hb)
  obtain ⟨ux, uy, uz, rfl, _⟩ := id hr
  have HCn := Lib.hid (new_placed _ [-2147483648, 2147483647, 0, -1] [2147483647, -2147483648, 0, -1] wb (HG0.out.later (HBwb.out)) hr.raw)
  clear hr hb HCwa HWwa HBwa
  go_wp2_with fail
  refine HCn.out.mono ?_
  rintro e wc ⟨p, rfl, hn, hb⟩
  have HBwc := Lib.hid (HBwb.out.next' hb); have HNp := Lib.hid hn
  clear hn hb HCn HBwb
  go_wp2_with fail
  refine (works21_any wc (HG0.out.later HBwc.out)).mono ?_
  rintro e wd ⟨rfl, hb⟩
  have HBwd := Lib.hid (HBwc.out.next' hb)
  have hp := HNp.out.keep (KpC.of_below hb); clear HNp; have HNp := Lib.hid hp; clear hp
  clear hb HBwc
  go_wp2_with fail
  refine (map_is p [-2147483648, 2147483647, 0, -1] [2147483647, -2147483648, 0, -1] 256 16 16 [240, 15, 136, 119] (by decide) ⟨by decide, by decide, by decide, by decide⟩ (by decide +kernel) wd HNp.out).mono ?_
  rintro e we ⟨a, cp, rfl, hs, hb⟩
  have HBwe := Lib.hid (HBwd.out.next' hb)
  have hp := HNp.out.keep (KpC.of_below hb); clear HNp; have HNp := Lib.hid hp; clear hp
  obtain ⟨wl, hwl⟩ : ∃ u, u = we.alloc (.cells #[.int .i64 240, .int .i64 15, .int .i64 136, .int .i64 119] 3) := ⟨_, rfl⟩
  have hbl : Below we.heap.size we wl := by rw [hwl]; exact (Below.refl _ _).alloc (Nat.le_refl _) _
  have kl : SlX wl (.slice (some ⟨we.heap.size, 0, none⟩) 4 4) [240, 15, 136, 119] := by rw [hwl]; exact slX_new (Blk.new _ _ _ _) rfl rfl (by decide)
  have HCi := Lib.hid (ints_any _ _ _ _ _ (hs.keep (KpC.of_below hbl)) kl); have HWl := Lib.hid hwl; have HBl := Lib.hid (HBwe.out.next' hbl)
  have hp := HNp.out.keep (KpC.of_below hbl); clear HNp; have HNp := Lib.hid hp; clear hp
  clear hs hb hbl kl hwl HBwe HBwd
  go_wp2_with fail
  rw [← HWl.out]
  refine HCi.out.mono ?_
  rintro e wei ⟨rfl, hb⟩
  have HBwei := Lib.hid (HBl.out.next' hb)
  have hp := HNp.out.keep (KpC.of_below hb); clear HNp; have HNp := Lib.hid hp; clear hp
  clear hb HBl HCi HWl
  go_wp2_with fail
  refine (map_is p [-2147483648, 2147483647, 0, -1] [2147483647, -2147483648, 0, -1] 1 1 1 [0, 0, 0, 0] (by decide) ⟨by decide, by decide, by decide, by decide⟩ (by decide +kernel) wei HNp.out).mono ?_
  rintro e wf ⟨a, cp, rfl, hs, hb⟩
  have HBwf := Lib.hid (HBwei.out.next' hb)
  obtain ⟨wl, hwl⟩ : ∃ u, u = wf.alloc (.cells #[.int .i64 0, .int .i64 0, .int .i64 0, .int .i64 0] 3) := ⟨_, rfl⟩
  have hbl : Below wf.heap.size wf wl := by rw [hwl]; exact (Below.refl _ _).alloc (Nat.le_refl _) _
  have kl : SlX wl (.slice (some ⟨wf.heap.size, 0, none⟩) 4 4) [0, 0, 0, 0] := by rw [hwl]; exact slX_new (Blk.new _ _ _ _) rfl rfl (by decide)
  have HCi := Lib.hid (ints_any _ _ _ _ _ (hs.keep (KpC.of_below hbl)) kl); have HWl := Lib.hid hwl; have HBl := Lib.hid (HBwf.out.next' hbl)
  clear hs hb hbl kl hwl HBwf HBwei
  go_wp2_with fail
  rw [← HWl.out]
  refine HCi.out.mono ?_
  rintro e wfi ⟨rfl, hb⟩
  have HBwfi := Lib.hid (HBl.out.next' hb)
  clear hb HBl HCi HWl
  go_wp2_with fail
  refine (map_none (some ⟨p, 0, none⟩) 0 (by omega) wfi).mono ?_
  rintro e wg ⟨rfl, hb⟩
  have HBwg := Lib.hid (HBwfi.out.next' hb)
  clear hb HBwfi
  go_wp2_with fail
  refine (map_none (some ⟨p, 0, none⟩) 257 (by omega) wg).mono ?_
  rintro e wh ⟨rfl, hb⟩
  have HBwh := Lib.hid (HBwg.out.next' hb)
  clear hb HBwg
  go_wp2_with fail
  refine (map_nil 4 (by decide) wh).mono ?_
  rintro e wi ⟨a, cp, rfl, hb⟩
  have HBwi := Lib.hid (HBwh.out.next' hb)
  clear hb HBwh
  go_wp2_with fail
  refine (shape_no (-9223372036854775808) (by omega) wi).mono ?_
  rintro e wi ⟨rfl, rfl⟩
  go_wp2_with fail
  refine (shape_yes 15 3 5 (by decide) ⟨by decide, by decide, by decide, by decide⟩ wi).mono ?_
  rintro e ws0 ⟨rfl, hb⟩
  have HBws0 := Lib.hid (HBwi.out.next' hb)
  clear hb HBwi
  go_wp2_with fail
  refine (shape_yes 16 4 4 (by decide) ⟨by decide, by decide, by decide, by decide⟩ ws0).mono ?_
  rintro e ws1 ⟨rfl, hb⟩
  have HBws1 := Lib.hid (HBws0.out.next' hb)
  clear hb HBws0
  go_wp2_with fail
  refine (shape_yes 255 15 17 (by decide) ⟨by decide, by decide, by decide, by decide⟩ ws1).mono ?_
  rintro e ws2 ⟨rfl, hb⟩
  have HBws2 := Lib.hid (HBws1.out.next' hb)
  clear hb HBws1
  go_wp2_with fail
  go_ret
  exact ⟨by simp, HBws2.out⟩
end Go.Proofs.YtlddcnkiigamjaaDoor
/- WHAT EVERY LAW's PROOF OF A TIED SEAT SHARES: the condition that the row lays, as the walks take it; a world that meets it. -/
namespace Go.Proofs.YtlddcnkiigamjaaDoor
open Go.ChangeShapes Go.WideShapes Go.ChangeAt Go.RowKit
theorem laid_et : Tryd.prog.globalNamed "errors.errorType" = some 0 := by kernel_rfl
theorem laid_rt : (Tryd.prog.cutTypes.find? (·.1 == "internal/reflectlite.rtype")).map (·.2) = some 136 := by kernel_rfl
theorem laid_row : ((List.range Tryd.prog.types.size).filter fun t => Tryd.prog.rowNamed t [101, 114, 114, 111, 114]) = [30] := by kernel_rfl
theorem HG.of_laid {W : World} (h : laidMetH Tryd.prog [("errors.errorType", Rows.laid_errors_errorType)] W) : HG W := by
  have h' : laidMet Tryd.prog [] W ∧ handlesMet Tryd.prog [("errors.errorType", Rows.laid_errors_errorType)] W := h
  obtain ⟨name, u, ty, e1, e2, e3, e4, e5⟩ := h'.2 _ (List.mem_singleton.2 rfl)
  have en : name = [101, 114, 114, 111, 114] := (Option.some.inj e1).symm
  subst en
  obtain rfl := Option.some.inj (laid_rt.symm.trans e2)
  have hm : ty ∈ (List.range Tryd.prog.types.size).filter fun t => Tryd.prog.rowNamed t [101, 114, 114, 111, 114] := List.mem_filter.2 ⟨List.mem_range.2 e3, e4⟩
  rw [laid_row] at hm
  obtain rfl := List.mem_singleton.1 hm
  have hh : typeHandle Tryd.prog 30 = .pointer (some ⟨1, 30, none⟩) := by kernel_rfl
  rw [hh] at e5
  simpa [HG] using World.var?_cell laid_et e5 0
/-- a world that meets the condition -/
noncomputable def laidWorld (os : Os) : World :=
  let w0 := World.holding Tryd.prog os ⟨#[], #[], []⟩
  { w0 with heap := w0.heap.modify 0 fun
      | .cells _ t frozen => .cells #[.iface 136 (.agg #[.pointer (some ⟨1, 30, none⟩)])] t frozen
      | o => o }
theorem laidWorld_met (os : Os) (args : Array Value) : laidMetH Tryd.prog [("errors.errorType", Rows.laid_errors_errorType)] ((laidWorld os).forCall (fun _ _ => 0) ⟨#[], args, []⟩).memory :=
  laidMetH_of_parts (laidMet_nil _ _) (by kernel_rfl)
end Go.Proofs.YtlddcnkiigamjaaDoor
