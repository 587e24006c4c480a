/- graph.Same; the reference's Same. -/
import Derived.Test.YtnkcmlngoeofgaaDoorGrEqual
namespace Go.Proofs.YtnkcmlngoeofgaaDoor
open Go.RowKit
/-- are both alike? -/
def sameB (a b : Raw) : Bool := decide (a.nodes = b.nodes ∧ a.X = b.X ∧ a.Y = b.Y ∧ a.arcs = b.arcs)
theorem sameB_iff (a b : Raw) : sameB a b = true ↔ a = b := by
  unfold sameB
  rw [decide_eq_true_iff]
  obtain ⟨n, x, y, l⟩ := a
  obtain ⟨n', x', y', l'⟩ := b
  simp
set_option maxHeartbeats 2000000 in
theorem same_any (va vb : Value) (a b : Raw) (w : World) (ha : RawV w va a) (hb : RawV w vb b) : Calls Tryd.prog 22 #[va, vb] w fun e w' => e = .returned (.bool (sameB a b)) ∧ Below w.heap.size w w' := by
  obtain ⟨ax, ay, aa, rfl, hax, hay, haa⟩ := ha
  obtain ⟨bx, by_, ba, rfl, hbx, hby, hba⟩ := hb
  have fx := hax.form; have fy := hay.form; have fa := haa.form
  have gx := hbx.form; have gy := hby.form; have ga := hba.form
  have hb0 := ((Below.refl w.heap.size w).alloc (Nat.le_refl _) (.cells #[.int .i64 a.nodes, ax, ay, aa] 25)).alloc (by simp) (.cells #[.int .i64 b.nodes, bx, by_, ba] 25)
  have k1 := (Blk.new w #[.int .i64 a.nodes, ax, ay, aa] 25 (0, 0)).alloc (.cells #[.int .i64 b.nodes, bx, by_, ba] 25)
  have k2 : Blk ((w.alloc (.cells #[.int .i64 a.nodes, ax, ay, aa] 25)).alloc (.cells #[.int .i64 b.nodes, bx, by_, ba] 25)) (w.heap.size + 1) #[.int .i64 b.nodes, bx, by_, ba] 25 (0, 0) := by
    have h := Blk.new (w.alloc (.cells #[.int .i64 a.nodes, ax, ay, aa] 25)) #[.int .i64 b.nodes, bx, by_, ba] 25 (0, 0)
    rwa [World.size_alloc] at h
  have CX := fun u hu => equalX _ _ _ _ u (hax.keep (KpC.of_below (W' := u) hu)) (hbx.keep (KpC.of_below hu))
  have CY := fun u hu => equalX _ _ _ _ u (hay.keep (KpC.of_below (W' := u) hu)) (hby.keep (KpC.of_below hu))
  have CA := fun u hu => equalA _ _ _ _ u (haa.keep (KpC.of_below (W' := u) hu)) (hba.keep (KpC.of_below hu))
  have HCX := Lib.hid CX; have HCY := Lib.hid CY; have HCA := Lib.hid CA
  have HB := Lib.hid hb0; have HK1 := Lib.hid k1; have HK2 := Lib.hid k2
  clear hax hay haa hbx hby hba hb0 k1 k2 CX CY CA
  obtain ⟨_, _, _, rfl⟩ := fx
  obtain ⟨_, _, _, rfl⟩ := fy
  obtain ⟨_, _, _, rfl⟩ := fa
  obtain ⟨_, _, _, rfl⟩ := gx
  obtain ⟨_, _, _, rfl⟩ := gy
  obtain ⟨_, _, _, rfl⟩ := ga
  by_cases h0 : a.nodes = b.nodes
  · have q0 : (a.nodes == b.nodes) = true := by simpa using h0
    have H0 := Lib.hid h0
    clear h0
    go_enter Tryd.func22, Tryd.ntmps22
    go_wp2_with fail
    refine (HCX.out _ HB.out).mono ?_
    rintro e w1 ⟨rfl, hb1⟩
    have e1 := HK1.out.below hb1 HK1.out.lt
    have e2 := HK2.out.below hb1 HK2.out.lt
    have a2 := e1.cell 2; have a3 := e1.cell 3; have b2 := e2.cell 2; have b3 := e2.cell 3
    simp only [List.getElem?_toArray, List.getElem?_cons_succ, List.getElem?_cons_zero] at a2 a3 b2 b3
    have HE1 := Lib.hid e1; have HE2 := Lib.hid e2; have HB1 := Lib.hid (HB.out.next' hb1)
    clear e1 e2 hb1
    by_cases h1 : a.X = b.X
    · rw [decide_eq_true h1]
      have H1 := Lib.hid h1
      clear h1
      go_wp2_with fail
      refine (HCY.out _ HB1.out).mono ?_
      rintro e w2 ⟨rfl, hb2⟩
      have e1 := HE1.out.below hb2 HE1.out.lt
      have e2 := HE2.out.below hb2 HE2.out.lt
      have a3 := e1.cell 3; have b3 := e2.cell 3
      simp only [List.getElem?_toArray, List.getElem?_cons_succ, List.getElem?_cons_zero] at a3 b3
      have HB2 := Lib.hid (HB1.out.next' hb2)
      clear e1 e2 hb2
      by_cases h2 : a.Y = b.Y
      · rw [decide_eq_true h2]
        have H2 := Lib.hid h2
        clear h2
        go_wp2_with fail
        refine (HCA.out _ HB2.out).mono ?_
        rintro e w3 ⟨rfl, hb3⟩
        have HB3 := Lib.hid (HB2.out.next' hb3)
        have hs : sameB a b = decide (a.arcs = b.arcs) := by unfold sameB; simp [H0.out, H1.out, H2.out]
        have HS := Lib.hid hs
        clear hb3 hs
        obtain ⟨q, hq⟩ : ∃ q, q = decide (a.arcs = b.arcs) := ⟨_, rfl⟩
        rw [← hq] at HS ⊢
        clear hq
        go_wp2_with fail
        go_ret
        exact ⟨by rw [HS.out]; first | done | rfl, HB3.out⟩
      · rw [decide_eq_false h2]
        have hs : sameB a b = false := by unfold sameB; simp [h2]
        have HS := Lib.hid hs
        clear h2 hs
        go_wp2_with fail
        go_ret
        exact ⟨by rw [HS.out]; first | done | rfl, HB2.out⟩
    · rw [decide_eq_false h1]
      have hs : sameB a b = false := by unfold sameB; simp [h1]
      have HS := Lib.hid hs
      clear h1 hs
      go_wp2_with fail
      go_ret
      exact ⟨by rw [HS.out]; first | done | rfl, HB1.out⟩
  · have q0 : (a.nodes == b.nodes) = false := by simpa using h0
    have hs : sameB a b = false := by unfold sameB; simp [h0]
    have HS := Lib.hid hs
    clear h0 hs
    go_enter Tryd.func22, Tryd.ntmps22
    go_wp2_with fail
    go_ret
    exact ⟨by rw [HS.out]; first | done | rfl, HB.out⟩
end Go.Proofs.YtnkcmlngoeofgaaDoor
