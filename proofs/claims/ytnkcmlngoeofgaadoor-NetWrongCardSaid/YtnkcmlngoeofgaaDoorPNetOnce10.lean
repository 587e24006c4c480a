/- Texts of the law NetOnce, merged: NetDrawn, GrSame, NetRefSame, GrBackP, NetOnce, LawKit. -/
import Derived.Test.YtnkcmlngoeofgaaDoorPNetOnce09
import Derived.Test.YtnkcmlngoeofgaaDoorPNetOnce02
import Derived.Test.YtnkcmlngoeofgaaDoorPNetOnce05
import Derived.Test.YtnkcmlngoeofgaaDoorPNetOnce07
import Derived.Test.YtnkcmlngoeofgaaDoorPNetOnce08
import Derived.Test.YtnkcmlngoeofgaaDoorRows
import Derived.WalkKit
import Derived.WalkSpells
import Derived.WalkLawsBesides
import Derived.ProofKit
import Derived.Lib.Hide
import Derived.OpenShut
/- the net laws' drawn: a graph that may be. -/
namespace Go.Proofs.YtnkcmlngoeofgaaDoor
open Go.RowKit
set_option maxRecDepth 100000 in
set_option maxHeartbeats 4000000 in
theorem drawn7_any (v : Value) (l : List Int) (w : World) (h : SlI w v .u8 l) :
    Calls Tryd.prog 30 #[v] w fun e w' => ∃ v' g, e = .returned v' ∧ RawO w.heap.size w' v' g ∧ g.Ok ∧ (g.nodes ≤ 12 ∧ g.arcs.length ≤ 84) ∧ Below w.heap.size w w' := by
  obtain ⟨a, cap, rfl, h1, h2, h3⟩ := h
  unfold maxLen at h2
  obtain ⟨m, hm⟩ : ∃ m : Nat, m = min l.length 60 := ⟨_, rfl⟩
  have f1 : (if (60 : Int) < (l.length : Int) then (60 : Int) else (l.length : Int)) = (m : Int) := by split <;> omega
  have hm1 : m ≤ cap := by omega
  have hm2 : (m : Int) ≤ (cap : Int) := by omega
  have hm0 : (0 : Int) ≤ (m : Int) := by omega
  obtain ⟨B2, hB2⟩ : ∃ b, b = w.heap.size := ⟨_, rfl⟩
  obtain ⟨p, hp⟩ : ∃ b, b = w.heap.size + 1 := ⟨_, rfl⟩
  obtain ⟨w1, hw1⟩ : ∃ w1, w1 = (w.alloc (.cells #[.int .i64 0, .slice none 0 0, .slice none 0 0, .slice none 0 0] 25)).alloc (.cells #[.slice a m cap, .int .i64 0] 92) := ⟨_, rfl⟩
  have hb1 : Below w.heap.size w w1 := by rw [hw1]; exact ((Below.refl _ _).alloc (Nat.le_refl _) _).alloc (by simp) _
  have K2 : Blk w1 B2 #[.int .i64 0, .slice none 0 0, .slice none 0 0, .slice none 0 0] 25 (0, 0) := by rw [hw1, hB2]; exact (Blk.new _ _ _ _).alloc _
  have Kp : Blk w1 p #[.slice a m cap, .int .i64 0] 92 (0, 0) := by
    rw [hw1, hp]
    have h := Blk.new (w.alloc (.cells #[.int .i64 0, .slice none 0 0, .slice none 0 0, .slice none 0 0] 25)) #[.slice a m cap, .int .i64 0] 92 (0, 0)
    rwa [World.size_alloc] at h
  have htl : (l.take m).length = m := by rw [List.length_take]; omega
  have hD : DrS w1 p ⟨w.heap.size, a, cap, l.take m⟩ 0 := by
    refine ⟨by dsimp only; rw [htl]; exact Kp, by dsimp only; omega, by omega, fun i hi => ?_⟩
    dsimp only at hi ⊢
    obtain ⟨b, off, ha, hc⟩ := h3 i (by omega)
    have hlt := block_lt_of_cell hc
    refine ⟨b, off, ha, by have := hlt; dsimp only at this; omega, hlt, ?_⟩
    rw [List.getElem_take]
    exact (World.cell?_of_block (hb1.block b hlt)).trans hc
  have C := Lib.hid (rawD_any p ⟨w.heap.size, a, cap, l.take m⟩ w1 hD hb1.size)
  have HB1 := Lib.hid hb1; have HK2 := Lib.hid K2; have HW1 := Lib.hid hw1; have HB2 := Lib.hid hB2; have HP := Lib.hid hp; have HM := Lib.hid hm
  clear hb1 K2 Kp hw1 hB2 hp htl hD h3
  go_enter Tryd.func30, Tryd.ntmps30
  go_wp2_with fail
  rw [← HM.out, ← HW1.out, ← HP.out, ← HB2.out]
  clear hm f1 hm1 hm2 hm0
  refine C.out.mono ?_
  rintro e w2 ⟨v, g, rfl, ⟨vx, vy, va, rfl, o1, o2, o3, o4⟩, hok, hgl, hkk⟩
  have fx := ownForm o1; have fy := ownForm o2; have fa := ownForm o3
  obtain ⟨xa, xc, rfl, _⟩ := fx
  obtain ⟨ya, yc, rfl, _⟩ := fy
  obtain ⟨za, zc, rfl, _⟩ := fa
  have hB2e := HB2.out; have hPe := HP.out
  have bC3 := hkk.blk HK2.out (by omega)
  have e0 := bC3.cell 0; have e1 := bC3.cell 1; have e2 := bC3.cell 2; have e3 := bC3.cell 3
  change w2.cell? ⟨B2, 0, none⟩ = some (.int .i64 0) at e0
  change w2.cell? ⟨B2, 1, none⟩ = some (.slice none 0 0) at e1
  change w2.cell? ⟨B2, 2, none⟩ = some (.slice none 0 0) at e2
  change w2.cell? ⟨B2, 3, none⟩ = some (.slice none 0 0) at e3
  have fr := fun i => bC3.free i (Or.inr (Nat.zero_le _))
  have f0 := fr 0; have f1 := fr 1; have f2 := fr 2; have f3 := fr 3
  have bZ := (((bC3.set 0 (.int .i64 g.nodes)).set 1 (.slice xa g.X.length xc)).set 2 (.slice ya g.Y.length yc)).set 3 (.slice za g.arcs.length zc)
  have hO : Own3 w1.heap.size w2 (.slice xa g.X.length xc) (.slice ya g.Y.length yc) (.slice za g.arcs.length zc) g := ⟨o1, o2, o3, o4⟩
  have R2 := (((hO.set (p := ⟨B2, 0, none⟩) bC3 (by decide) (by decide) (.int .i64 g.nodes)).set (p := ⟨B2, 1, none⟩) (bC3.set 0 (.int .i64 g.nodes)) (by decide) (by decide) (.slice xa g.X.length xc)).set (p := ⟨B2, 2, none⟩) ((bC3.set 0 (.int .i64 g.nodes)).set 1 (.slice xa g.X.length xc)) (by decide) (by decide) (.slice ya g.Y.length yc)).set (p := ⟨B2, 3, none⟩) (((bC3.set 0 (.int .i64 g.nodes)).set 1 (.slice xa g.X.length xc)).set 2 (.slice ya g.Y.length yc)) (by decide) (by decide) (.slice za g.arcs.length zc)
  have hle : w.heap.size ≤ B2 := by omega
  have hb2 : Below w.heap.size w w2 := below_of HB1.out hkk (by omega)
  have KZ := (((hb2.setCell (p := ⟨B2, 0, none⟩) hle (.int .i64 g.nodes)).setCell (p := ⟨B2, 1, none⟩) hle (.slice xa g.X.length xc)).setCell (p := ⟨B2, 2, none⟩) hle (.slice ya g.Y.length yc)).setCell (p := ⟨B2, 3, none⟩) hle (.slice za g.arcs.length zc)
  have hbase : w.heap.size ≤ w1.heap.size := HB1.out.size
  have HZ := Lib.hid bZ; have HR2 := Lib.hid R2; have HKZ := Lib.hid KZ; have HOk := Lib.hid hok; have HGl := Lib.hid hgl
  clear bZ R2 KZ bC3 fr hle hkk hO o1 o2 o3 o4 hok hgl hb2 C hB2e hPe
  go_wp2_with fail
  generalize (((w2.setCell ⟨B2, 0, none⟩ (.int .i64 g.nodes)).setCell ⟨B2, 1, none⟩ (.slice xa g.X.length xc)).setCell ⟨B2, 2, none⟩ (.slice ya g.Y.length yc)).setCell ⟨B2, 3, none⟩ (.slice za g.arcs.length zc) = wz at *
  have z0 := HZ.out.cell 0; have z1 := HZ.out.cell 1; have z2 := HZ.out.cell 2; have z3 := HZ.out.cell 3
  change wz.cell? ⟨B2, 0, none⟩ = some (.int .i64 g.nodes) at z0
  change wz.cell? ⟨B2, 1, none⟩ = some (.slice xa g.X.length xc) at z1
  change wz.cell? ⟨B2, 2, none⟩ = some (.slice ya g.Y.length yc) at z2
  change wz.cell? ⟨B2, 3, none⟩ = some (.slice za g.arcs.length zc) at z3
  exact bodyPost_ret (v := .agg #[.int .i64 g.nodes, .slice xa g.X.length xc, .slice ya g.Y.length yc, .slice za g.arcs.length zc]) (by simp [results, Tryd.results30, go_sem, z0, z1, z2, z3]) rfl ⟨_, g, rfl, ⟨_, _, _, rfl, ownsRow_le HR2.out.1 hbase, ownsRow_le HR2.out.2.1 hbase, ownsRow_le HR2.out.2.2.1 hbase, HR2.out.2.2.2⟩, HOk.out, HGl.out, HKZ.out⟩
end Go.Proofs.YtnkcmlngoeofgaaDoor
/- graph.Same; the reference's Same. -/
namespace Go.Proofs.YtnkcmlngoeofgaaDoor
open Go.RowKit
/-- are both alike? -/
def sameB (a b : Raw) : Bool := decide (a.nodes = b.nodes ∧ a.X = b.X ∧ a.Y = b.Y ∧ a.arcs = b.arcs)
theorem sameB_iff (a b : Raw) : sameB a b = true ↔ a = b := by
  unfold sameB
  rw [decide_eq_true_iff]
  obtain ⟨n, x, y, l⟩ := a
  obtain ⟨n', x', y', l'⟩ := b
  simp
set_option maxHeartbeats 2000000 in
theorem same_any (va vb : Value) (a b : Raw) (w : World) (ha : RawV w va a) (hb : RawV w vb b) : Calls Tryd.prog 22 #[va, vb] w fun e w' => e = .returned (.bool (sameB a b)) ∧ Below w.heap.size w w' := by
  obtain ⟨ax, ay, aa, rfl, hax, hay, haa⟩ := ha
  obtain ⟨bx, by_, ba, rfl, hbx, hby, hba⟩ := hb
  have fx := hax.form; have fy := hay.form; have fa := haa.form
  have gx := hbx.form; have gy := hby.form; have ga := hba.form
  have hb0 := ((Below.refl w.heap.size w).alloc (Nat.le_refl _) (.cells #[.int .i64 a.nodes, ax, ay, aa] 25)).alloc (by simp) (.cells #[.int .i64 b.nodes, bx, by_, ba] 25)
  have k1 := (Blk.new w #[.int .i64 a.nodes, ax, ay, aa] 25 (0, 0)).alloc (.cells #[.int .i64 b.nodes, bx, by_, ba] 25)
  have k2 : Blk ((w.alloc (.cells #[.int .i64 a.nodes, ax, ay, aa] 25)).alloc (.cells #[.int .i64 b.nodes, bx, by_, ba] 25)) (w.heap.size + 1) #[.int .i64 b.nodes, bx, by_, ba] 25 (0, 0) := by
    have h := Blk.new (w.alloc (.cells #[.int .i64 a.nodes, ax, ay, aa] 25)) #[.int .i64 b.nodes, bx, by_, ba] 25 (0, 0)
    rwa [World.size_alloc] at h
  have CX := fun u hu => equalX _ _ _ _ u (hax.keep (KpC.of_below (W' := u) hu)) (hbx.keep (KpC.of_below hu))
  have CY := fun u hu => equalX _ _ _ _ u (hay.keep (KpC.of_below (W' := u) hu)) (hby.keep (KpC.of_below hu))
  have CA := fun u hu => equalA _ _ _ _ u (haa.keep (KpC.of_below (W' := u) hu)) (hba.keep (KpC.of_below hu))
  have HCX := Lib.hid CX; have HCY := Lib.hid CY; have HCA := Lib.hid CA
  have HB := Lib.hid hb0; have HK1 := Lib.hid k1; have HK2 := Lib.hid k2
  clear hax hay haa hbx hby hba hb0 k1 k2 CX CY CA
  obtain ⟨_, _, _, rfl⟩ := fx
  obtain ⟨_, _, _, rfl⟩ := fy
  obtain ⟨_, _, _, rfl⟩ := fa
  obtain ⟨_, _, _, rfl⟩ := gx
  obtain ⟨_, _, _, rfl⟩ := gy
  obtain ⟨_, _, _, rfl⟩ := ga
  by_cases h0 : a.nodes = b.nodes
  · have q0 : (a.nodes == b.nodes) = true := by simpa using h0
    have H0 := Lib.hid h0
    clear h0
    go_enter Tryd.func22, Tryd.ntmps22
    go_wp2_with fail
    refine (HCX.out _ HB.out).mono ?_
    rintro e w1 ⟨rfl, hb1⟩
    have e1 := HK1.out.below hb1 HK1.out.lt
    have e2 := HK2.out.below hb1 HK2.out.lt
    have a2 := e1.cell 2; have a3 := e1.cell 3; have b2 := e2.cell 2; have b3 := e2.cell 3
    simp only [List.getElem?_toArray, List.getElem?_cons_succ, List.getElem?_cons_zero] at a2 a3 b2 b3
    have HE1 := Lib.hid e1; have HE2 := Lib.hid e2; have HB1 := Lib.hid (HB.out.next' hb1)
    clear e1 e2 hb1
    by_cases h1 : a.X = b.X
    · rw [decide_eq_true h1]
      have H1 := Lib.hid h1
      clear h1
      go_wp2_with fail
      refine (HCY.out _ HB1.out).mono ?_
      rintro e w2 ⟨rfl, hb2⟩
      have e1 := HE1.out.below hb2 HE1.out.lt
      have e2 := HE2.out.below hb2 HE2.out.lt
      have a3 := e1.cell 3; have b3 := e2.cell 3
      simp only [List.getElem?_toArray, List.getElem?_cons_succ, List.getElem?_cons_zero] at a3 b3
      have HB2 := Lib.hid (HB1.out.next' hb2)
      clear e1 e2 hb2
      by_cases h2 : a.Y = b.Y
      · rw [decide_eq_true h2]
        have H2 := Lib.hid h2
        clear h2
        go_wp2_with fail
        refine (HCA.out _ HB2.out).mono ?_
        rintro e w3 ⟨rfl, hb3⟩
        have HB3 := Lib.hid (HB2.out.next' hb3)
        have hs : sameB a b = decide (a.arcs = b.arcs) := by unfold sameB; simp [H0.out, H1.out, H2.out]
        have HS := Lib.hid hs
        clear hb3 hs
        obtain ⟨q, hq⟩ : ∃ q, q = decide (a.arcs = b.arcs) := ⟨_, rfl⟩
        rw [← hq] at HS ⊢
        clear hq
        go_wp2_with fail
        go_ret
        exact ⟨by rw [HS.out]; first | done | rfl, HB3.out⟩
      · rw [decide_eq_false h2]
        have hs : sameB a b = false := by unfold sameB; simp [h2]
        have HS := Lib.hid hs
        clear h2 hs
        go_wp2_with fail
        go_ret
        exact ⟨by rw [HS.out]; first | done | rfl, HB2.out⟩
    · rw [decide_eq_false h1]
      have hs : sameB a b = false := by unfold sameB; simp [h1]
      have HS := Lib.hid hs
      clear h1 hs
      go_wp2_with fail
      go_ret
      exact ⟨by rw [HS.out]; first | done | rfl, HB1.out⟩
  · have q0 : (a.nodes == b.nodes) = false := by simpa using h0
    have hs : sameB a b = false := by unfold sameB; simp [h0]
    have HS := Lib.hid hs
    clear h0 hs
    go_enter Tryd.func22, Tryd.ntmps22
    go_wp2_with fail
    go_ret
    exact ⟨by rw [HS.out]; first | done | rfl, HB.out⟩
end Go.Proofs.YtnkcmlngoeofgaaDoor
/- milestoneref07.Same. -/
namespace Go.Proofs.YtnkcmlngoeofgaaDoor
open Go.RowKit
set_option maxHeartbeats 8000000 in
theorem refSame7_any (va vb : Value) (a b : Raw) (w : World) (ha : RawV w va a) (hb : RawV w vb b) : Calls Tryd.prog 38 #[va, vb] w fun e w' => e = .returned (.bool (sameB a b)) ∧ Below w.heap.size w w' := by
  obtain ⟨ax, ay, aa, rfl, hax, hay, haa⟩ := ha
  obtain ⟨bx, by_, ba, rfl, hbx, hby, hba⟩ := hb
  have fx := id hax; have fy := id hay; have fa := id haa
  have gx := id hbx; have gy := id hby; have ga := id hba
  obtain ⟨B1, hB1⟩ : ∃ b, b = w.heap.size := ⟨_, rfl⟩
  obtain ⟨B2, hB2⟩ : ∃ b, b = w.heap.size + 1 := ⟨_, rfl⟩
  obtain ⟨w0, hw0⟩ : ∃ w0, w0 = ((w.alloc (.cells #[.int .i64 a.nodes, ax, ay, aa] 25)).alloc (.cells #[.int .i64 b.nodes, bx, by_, ba] 25)) := ⟨_, rfl⟩
  have hb0 : Below w.heap.size w w0 := by rw [hw0]; exact ((Below.refl w.heap.size w).alloc (Nat.le_refl _) _).alloc (by simp) _
  have k1 : Blk w0 B1 #[.int .i64 a.nodes, ax, ay, aa] 25 (0, 0) := by rw [hw0, hB1]; exact (Blk.new w _ _ (0, 0)).alloc _
  have k2 : Blk w0 B2 #[.int .i64 b.nodes, bx, by_, ba] 25 (0, 0) := by
    rw [hw0, hB2]
    have h := Blk.new (w.alloc (.cells #[.int .i64 a.nodes, ax, ay, aa] 25)) #[.int .i64 b.nodes, bx, by_, ba] 25 (0, 0)
    rwa [World.size_alloc] at h
  have CX := Lib.hid (fun u hu => And.intro (hax.keep (KpC.of_below (W' := u) hu)) (hbx.keep (KpC.of_below (W' := u) hu)))
  have CY := Lib.hid (fun u hu => And.intro (hay.keep (KpC.of_below (W' := u) hu)) (hby.keep (KpC.of_below (W' := u) hu)))
  have CA := Lib.hid (fun u hu => And.intro (haa.keep (KpC.of_below (W' := u) hu)) (hba.keep (KpC.of_below (W' := u) hu)))
  have HB := Lib.hid hb0; have HK1 := Lib.hid k1; have HK2 := Lib.hid k2; have HW0 := Lib.hid hw0
  have HB1 := Lib.hid hB1; have HB2 := Lib.hid hB2
  have a0 := k1.cell 0; have a1 := k1.cell 1; have a2 := k1.cell 2; have a3 := k1.cell 3
  have b0 := k2.cell 0; have b1 := k2.cell 1; have b2 := k2.cell 2; have b3 := k2.cell 3
  simp only [List.getElem?_toArray, List.getElem?_cons_succ, List.getElem?_cons_zero] at a0 a1 a2 a3 b0 b1 b2 b3
  clear hax hay haa hbx hby hba hb0 k1 k2 hw0 hB1 hB2
  obtain ⟨pxa, cxa, rfl, hcxa, hmxa, _⟩ := fx
  obtain ⟨pya, cya, rfl, hcya, hmya, _⟩ := fy
  obtain ⟨pa, ca, rfl, hca, hma, _⟩ := fa
  obtain ⟨pxb, cxb, rfl, hcxb, hmxb, _⟩ := gx
  obtain ⟨pyb, cyb, rfl, hcyb, hmyb, _⟩ := gy
  obtain ⟨pb, cb, rfl, hcb, hmb, _⟩ := ga
  unfold maxLen at *
  go_enter Tryd.func38, Tryd.ntmps38
  by_cases h0 : a.nodes = b.nodes
  case neg =>
    have q0 : (a.nodes != b.nodes) = true := by simpa using h0
    have hs : sameB a b = false := by unfold sameB; simp [h0]
    have HS := Lib.hid hs
    clear hs h0
    go_wp2_with fail
    rw [← HW0.out]
    go_ret
    exact ⟨by rw [HS.out]; first | done | rfl, HB.out⟩
  have q0 : (a.nodes != b.nodes) = false := by simpa using h0
  have H0 := Lib.hid h0
  clear h0
  by_cases h0 : a.X.length = b.X.length
  case neg =>
    have l0 : ((a.X.length : Int) != (b.X.length : Int)) = true := by simp; omega
    have hs : sameB a b = false := by
      unfold sameB
      rw [decide_eq_false]
      rintro ⟨_, h1, h2, h3⟩
      exact h0 (by rw [h1])
    have HS := Lib.hid hs
    clear hs h0
    go_wp2_with fail
    rw [← HW0.out]
    go_ret
    exact ⟨by rw [HS.out]; first | done | rfl, HB.out⟩
  have l0 : ((a.X.length : Int) != (b.X.length : Int)) = false := by simp [h0]
  have HLX := Lib.hid h0
  have HMX := Lib.hid (show ∀ k, k < a.X.length → k < b.X.length from fun k h => by omega)
  clear h0
  by_cases h0 : a.Y.length = b.Y.length
  case neg =>
    have l1 : ((a.Y.length : Int) != (b.Y.length : Int)) = true := by simp; omega
    have hs : sameB a b = false := by
      unfold sameB
      rw [decide_eq_false]
      rintro ⟨_, h1, h2, h3⟩
      exact h0 (by rw [h2])
    have HS := Lib.hid hs
    clear hs h0
    go_wp2_with fail
    rw [← HW0.out]
    go_ret
    exact ⟨by rw [HS.out]; first | done | rfl, HB.out⟩
  have l1 : ((a.Y.length : Int) != (b.Y.length : Int)) = false := by simp [h0]
  have HLY := Lib.hid h0
  have HMY := Lib.hid (show ∀ k, k < a.Y.length → k < b.Y.length from fun k h => by omega)
  clear h0
  by_cases h0 : a.arcs.length = b.arcs.length
  case neg =>
    have l2 : ((a.arcs.length : Int) != (b.arcs.length : Int)) = true := by simp; omega
    have hs : sameB a b = false := by
      unfold sameB
      rw [decide_eq_false]
      rintro ⟨_, h1, h2, h3⟩
      exact h0 (by rw [h3])
    have HS := Lib.hid hs
    clear hs h0
    go_wp2_with fail
    rw [← HW0.out]
    go_ret
    exact ⟨by rw [HS.out]; first | done | rfl, HB.out⟩
  have l2 : ((a.arcs.length : Int) != (b.arcs.length : Int)) = false := by simp [h0]
  have HLarcs := Lib.hid h0
  have HMarcs := Lib.hid (show ∀ k, k < a.arcs.length → k < b.arcs.length from fun k h => by omega)
  clear h0
  go_wp2_with fail
  rw [← HW0.out, ← HB2.out, ← HB1.out]
  have HBW : Hid (Below w0.heap.size w0 w0) := Lib.hid (Below.refl _ _)
  clear a0 a1 a2 a3 b0 b1 b2 b3
  go_loopw [5] (fun i wr => ∃ (k : Nat), k ≤ a.X.length ∧ i = .int .i64 k ∧ Hid (a.X.take k = b.X.take k) ∧ Hid (Below w0.heap.size w0 wr)) (fun i _ => a.X.length - (intOf i).toNat)
  case atStart => exact ⟨0, Nat.zero_le _, rfl, Lib.hid rfl, Lib.hid HBW.out⟩
  clear HBW
  obtain ⟨k, hk, rfl, hpre, hbel⟩ := hrel
  have e1 := HK1.out.below hbel.out HK1.out.lt
  have e2 := HK2.out.below hbel.out HK2.out.lt
  have a0 := e1.cell 0; have a1 := e1.cell 1; have a2 := e1.cell 2; have a3 := e1.cell 3; have b0 := e2.cell 0; have b1 := e2.cell 1; have b2 := e2.cell 2; have b3 := e2.cell 3
  simp only [List.getElem?_toArray, List.getElem?_cons_succ, List.getElem?_cons_zero] at a0 a1 a2 a3 b0 b1 b2 b3
  clear e1 e2
  by_cases hlt : k < a.X.length
  case pos =>
    have hw := HB.out.next' hbel.out
    obtain ⟨xa, oa, rfl, da⟩ := (CX.out wr hw).1.at k hlt
    obtain ⟨xb, ob, rfl, db⟩ := (CX.out wr hw).2.at k (HMX.out k hlt)
    have i1 : (0 : Int) ≤ (k : Int) := by omega
    have i2 : (k : Int) < (a.X.length : Int) := by omega
    have i3 : (k : Int) < (b.X.length : Int) := by have := HMX.out k hlt; omega
    have hA1 : Hid (a.X.take (k + 1) = a.X.take k ++ [a.X[k]]) := Lib.hid (List.take_succ_eq_append_getElem hlt)
    have hB1 : Hid (b.X.take (k + 1) = b.X.take k ++ [b.X[k]'(HMX.out k hlt)]) := Lib.hid (List.take_succ_eq_append_getElem (HMX.out k hlt))
    obtain ⟨x, hx⟩ : ∃ x, x = a.X[k] := ⟨_, rfl⟩
    obtain ⟨y, hy⟩ : ∃ y, y = b.X[k]'(HMX.out k hlt) := ⟨_, rfl⟩
    rw [← hx] at da; rw [← hy] at db
    have HX := Lib.hid hx.symm; have HY := Lib.hid hy.symm
    clear hx hy hw
    go_wp2_with fail
    go_quiet (fail)
    generalize hwd : wr.drewN _ = wd at *
    by_cases hxy : x = y
    · subst hxy
      have hbq : (x != x) = false := by simp
      go_wp2_with fail
      go_roundw
      case rel =>
        refine ⟨k + 1, by omega, by go_num, Lib.hid ?_, Lib.hid ?_⟩
        · rw [hA1.out, hB1.out, hpre.out, HX.out, HY.out]
        · rw [← hwd]; exact below_drewN hbel.out _
      case measure => simp [intOf]; omega
    · have hbq : (x != y) = true := by simpa using hxy
      have hs : sameB a b = false := by
        unfold sameB
        rw [decide_eq_false]
        rintro ⟨_, h1, h2, h3⟩
        exact hxy (by rw [← HX.out, ← HY.out]; simp [h1])
      have HS := Lib.hid hs
      have HBw : Hid (Below w.heap.size w wd) := Lib.hid (by rw [← hwd]; exact below_drewN (HB.out.next' hbel.out) _)
      clear hs hwd
      go_wp2_with fail
      go_ret
      exact ⟨by rw [HS.out]; first | done | rfl, HBw.out⟩
  obtain rfl : k = a.X.length := by omega
  have HE1 : Hid (a.X = b.X) := Lib.hid (by have h := hpre.out; rwa [List.take_length, HLX.out, List.take_length] at h)
  have HBW := Lib.hid hbel.out
  clear hpre hbel
  go_wp2_with fail
  clear a0 a1 a2 a3 b0 b1 b2 b3
  go_loopw [6] (fun i wr => ∃ (k : Nat), k ≤ a.Y.length ∧ i = .int .i64 k ∧ Hid (a.Y.take k = b.Y.take k) ∧ Hid (Below w0.heap.size w0 wr)) (fun i _ => a.Y.length - (intOf i).toNat)
  case atStart => exact ⟨0, Nat.zero_le _, rfl, Lib.hid rfl, Lib.hid HBW.out⟩
  clear HBW
  obtain ⟨k, hk, rfl, hpre, hbel⟩ := hrel
  have e1 := HK1.out.below hbel.out HK1.out.lt
  have e2 := HK2.out.below hbel.out HK2.out.lt
  have a0 := e1.cell 0; have a1 := e1.cell 1; have a2 := e1.cell 2; have a3 := e1.cell 3; have b0 := e2.cell 0; have b1 := e2.cell 1; have b2 := e2.cell 2; have b3 := e2.cell 3
  simp only [List.getElem?_toArray, List.getElem?_cons_succ, List.getElem?_cons_zero] at a0 a1 a2 a3 b0 b1 b2 b3
  clear e1 e2
  by_cases hlt : k < a.Y.length
  case pos =>
    have hw := HB.out.next' hbel.out
    obtain ⟨xa, oa, rfl, da⟩ := (CY.out wr hw).1.at k hlt
    obtain ⟨xb, ob, rfl, db⟩ := (CY.out wr hw).2.at k (HMY.out k hlt)
    have i1 : (0 : Int) ≤ (k : Int) := by omega
    have i2 : (k : Int) < (a.Y.length : Int) := by omega
    have i3 : (k : Int) < (b.Y.length : Int) := by have := HMY.out k hlt; omega
    have hA1 : Hid (a.Y.take (k + 1) = a.Y.take k ++ [a.Y[k]]) := Lib.hid (List.take_succ_eq_append_getElem hlt)
    have hB1 : Hid (b.Y.take (k + 1) = b.Y.take k ++ [b.Y[k]'(HMY.out k hlt)]) := Lib.hid (List.take_succ_eq_append_getElem (HMY.out k hlt))
    obtain ⟨x, hx⟩ : ∃ x, x = a.Y[k] := ⟨_, rfl⟩
    obtain ⟨y, hy⟩ : ∃ y, y = b.Y[k]'(HMY.out k hlt) := ⟨_, rfl⟩
    rw [← hx] at da; rw [← hy] at db
    have HX := Lib.hid hx.symm; have HY := Lib.hid hy.symm
    clear hx hy hw
    go_wp2_with fail
    go_quiet (fail)
    generalize hwd : wr.drewN _ = wd at *
    by_cases hxy : x = y
    · subst hxy
      have hbq : (x != x) = false := by simp
      go_wp2_with fail
      go_roundw
      case rel =>
        refine ⟨k + 1, by omega, by go_num, Lib.hid ?_, Lib.hid ?_⟩
        · rw [hA1.out, hB1.out, hpre.out, HX.out, HY.out]
        · rw [← hwd]; exact below_drewN hbel.out _
      case measure => simp [intOf]; omega
    · have hbq : (x != y) = true := by simpa using hxy
      have hs : sameB a b = false := by
        unfold sameB
        rw [decide_eq_false]
        rintro ⟨_, h1, h2, h3⟩
        exact hxy (by rw [← HX.out, ← HY.out]; simp [h2])
      have HS := Lib.hid hs
      have HBw : Hid (Below w.heap.size w wd) := Lib.hid (by rw [← hwd]; exact below_drewN (HB.out.next' hbel.out) _)
      clear hs hwd
      go_wp2_with fail
      go_ret
      exact ⟨by rw [HS.out]; first | done | rfl, HBw.out⟩
  obtain rfl : k = a.Y.length := by omega
  have HE2 : Hid (a.Y = b.Y) := Lib.hid (by have h := hpre.out; rwa [List.take_length, HLY.out, List.take_length] at h)
  have HBW := Lib.hid hbel.out
  clear hpre hbel
  go_wp2_with fail
  clear a0 a1 a2 a3 b0 b1 b2 b3
  go_loopw [7] (fun i wr => ∃ (k : Nat), k ≤ a.arcs.length ∧ i = .int .i64 k ∧ Hid (a.arcs.take k = b.arcs.take k) ∧ Hid (Below w0.heap.size w0 wr)) (fun i _ => a.arcs.length - (intOf i).toNat)
  case atStart => exact ⟨0, Nat.zero_le _, rfl, Lib.hid rfl, Lib.hid HBW.out⟩
  clear HBW
  obtain ⟨k, hk, rfl, hpre, hbel⟩ := hrel
  have e1 := HK1.out.below hbel.out HK1.out.lt
  have e2 := HK2.out.below hbel.out HK2.out.lt
  have a0 := e1.cell 0; have a1 := e1.cell 1; have a2 := e1.cell 2; have a3 := e1.cell 3; have b0 := e2.cell 0; have b1 := e2.cell 1; have b2 := e2.cell 2; have b3 := e2.cell 3
  simp only [List.getElem?_toArray, List.getElem?_cons_succ, List.getElem?_cons_zero] at a0 a1 a2 a3 b0 b1 b2 b3
  clear e1 e2
  by_cases hlt : k < a.arcs.length
  case pos =>
    have hw := HB.out.next' hbel.out
    obtain ⟨xa, oa, rfl, da0, da1, da2⟩ := (CA.out wr hw).1.at k hlt
    obtain ⟨xb, ob, rfl, db0, db1, db2⟩ := (CA.out wr hw).2.at k (HMarcs.out k hlt)
    have i1 : (0 : Int) ≤ (k : Int) := by omega
    have i2 : (k : Int) < (a.arcs.length : Int) := by omega
    have i3 : (k : Int) < (b.arcs.length : Int) := by have := HMarcs.out k hlt; omega
    have hA1 : Hid (a.arcs.take (k + 1) = a.arcs.take k ++ [a.arcs[k]]) := Lib.hid (List.take_succ_eq_append_getElem hlt)
    have hB1 : Hid (b.arcs.take (k + 1) = b.arcs.take k ++ [b.arcs[k]'(HMarcs.out k hlt)]) := Lib.hid (List.take_succ_eq_append_getElem (HMarcs.out k hlt))
    obtain ⟨x, hx⟩ : ∃ x, x = a.arcs[k] := ⟨_, rfl⟩
    obtain ⟨y, hy⟩ : ∃ y, y = b.arcs[k]'(HMarcs.out k hlt) := ⟨_, rfl⟩
    rw [← hx] at da0 da1 da2; rw [← hy] at db0 db1 db2
    have HX := Lib.hid hx.symm; have HY := Lib.hid hy.symm
    clear hx hy hw
    obtain ⟨x0, x1, x2⟩ := x
    obtain ⟨y0, y1, y2⟩ := y
    simp only at da0 da1 da2 db0 db1 db2
    obtain ⟨q, hq⟩ : ∃ q, q = !(x0 == y0 && (x1 == y1 && x2 == y2)) := ⟨_, rfl⟩
    have hq0 : ∀ w, (binOp .neq 54 (.agg #[.int .i64 x0, .int .i64 x1, .int .i64 x2]) (.agg #[.int .i64 y0, .int .i64 y1, .int .i64 y2])).run Tryd.prog w = .ok (.bool q) w := fun w => by rw [hq]; exact arc_neq x0 x1 x2 y0 y1 y2 w
    have HQ := Lib.hid hq
    clear hq
    go_wp2_with fail
    go_quiet (fail)
    generalize hwd : wr.drewN _ = wd at *
    have hqq : q = false ∨ q = true := by cases q <;> simp
    clear hq0
    rcases hqq with rfl | rfl
    · have hxy : Hid (((x0, x1, x2) : Ar) = (y0, y1, y2)) := Lib.hid (by have h := HQ.out; simp at h; simp [h])
      go_wp2_with fail
      go_roundw
      case rel =>
        refine ⟨k + 1, by omega, by go_num, Lib.hid ?_, Lib.hid ?_⟩
        · rw [hA1.out, hB1.out, hpre.out, HX.out, HY.out, hxy.out]
        · rw [← hwd]; exact below_drewN hbel.out _
      case measure => simp [intOf]; omega
    · have hs : sameB a b = false := by
        unfold sameB
        rw [decide_eq_false]
        rintro ⟨_, _, _, h⟩
        exact arc_q HQ.out (by rw [← HX.out, ← HY.out]; simp [h])
      have HS := Lib.hid hs
      have HBw : Hid (Below w.heap.size w wd) := Lib.hid (by rw [← hwd]; exact below_drewN (HB.out.next' hbel.out) _)
      clear hs hwd
      go_wp2_with fail
      go_ret
      exact ⟨by rw [HS.out]; first | done | rfl, HBw.out⟩
  obtain rfl : k = a.arcs.length := by omega
  have HE3 : Hid (a.arcs = b.arcs) := Lib.hid (by have h := hpre.out; rwa [List.take_length, HLarcs.out, List.take_length] at h)
  have hs : sameB a b = true := by unfold sameB; simp [H0.out, HE1.out, HE2.out, HE3.out]
  have HS := Lib.hid hs
  have HBw := Lib.hid (HB.out.next' hbel.out)
  clear hs
  go_wp2_with fail
  go_ret
  exact ⟨by rw [HS.out]; first | done | rfl, HBw.out⟩
end Go.Proofs.YtnkcmlngoeofgaaDoor
/- GraphBack's plain law: turned twice, moved there and back. -/
namespace Go.Proofs.YtnkcmlngoeofgaaDoor
open Go.RowKit
theorem Raw.turned_twice (r : Raw) : r.turned.turned = r := by
  obtain ⟨n, X, Y, A⟩ := r
  show (⟨n, X, Y, (A.map turnA).map turnA⟩ : Raw) = _
  rw [List.map_map, show turnA ∘ turnA = id from rfl, List.map_id]
theorem Raw.turned_okB {g : Raw} (h : g.Ok) : g.turned.Ok := by
  refine ⟨h.nodes, h.lenX, h.lenY, h.x, h.y, ?_, ?_⟩
  · show (g.arcs.map turnA).length ≤ _
    rw [List.length_map]; exact h.arcs
  · intro a ha
    obtain ⟨b, hb, rfl⟩ := List.mem_map.1 ha
    obtain ⟨h1, h2, h3⟩ := h.arc b hb
    exact ⟨h2, h1, h3⟩
theorem mv_back {n b v : Int} (hn : 1 ≤ n) (hv : 0 ≤ v ∧ v < n) : mvI n (-(b.tmod n)) (mvI n b v) = v := by
  unfold mvI
  rw [Int.emod_add_emod, (tmod_bounds b n hn).2.2, show v + b + -(b - n * b.tdiv n) = v + n * b.tdiv n by omega, Int.add_mul_emod_self_left, Int.emod_eq_of_lt hv.1 hv.2]
theorem moved_back {r m q : Raw} {b : Int} (hk : r.Ok) (h1 : MovedTo b r m) (h2 : MovedTo (-(b.tmod r.nodes)) m q) : q = r := by
  have hn := hk.nodes
  have hr := fun (v : Nat) (h : (v : Int) < r.nodes) => mv_back (b := b) hn.1 ⟨Int.natCast_nonneg v, h⟩
  have hL : ∀ (L M Q : List Int), (L.length : Int) = r.nodes → Q.length = L.length → (∀ v : Nat, (v : Int) < r.nodes → M[(mvI r.nodes b v).toNat]? = L[v]?) → (∀ v : Nat, (v : Int) < r.nodes → Q[(mvI r.nodes (-(b.tmod r.nodes)) v).toNat]? = M[v]?) → Q = L := by
    intro L M Q l1 l2 e1 e2
    apply List.ext_getElem?
    intro i
    by_cases hi : (i : Int) < r.nodes
    · have e1 := e1 i hi
      have hu := mvI_range r.nodes b i hn.1
      have e2 := e2 (mvI r.nodes b i).toNat (by omega)
      rw [Int.toNat_of_nonneg hu.1, hr i hi, Int.toNat_natCast, e1] at e2
      exact e2
    · rw [List.getElem?_eq_none (by omega), List.getElem?_eq_none (by omega)]
  have hm := h1.nodes
  have hx : q.X = r.X := hL r.X m.X q.X hk.lenX (by rw [h2.lenX, h1.lenX]) h1.x (fun v hv => by have := h2.x v (by rw [hm]; exact hv); rwa [hm] at this)
  have hy : q.Y = r.Y := hL r.Y m.Y q.Y hk.lenY (by rw [h2.lenY, h1.lenY]) h1.y (fun v hv => by have := h2.y v (by rw [hm]; exact hv); rwa [hm] at this)
  have ha : q.arcs = r.arcs := by
    rw [h2.arcs, h1.arcs, List.map_map, hm]
    have : ∀ a ∈ r.arcs, ((fun a : Ar => (mvI r.nodes (-(b.tmod r.nodes)) a.1, mvI r.nodes (-(b.tmod r.nodes)) a.2.1, a.2.2)) ∘ (fun a : Ar => (mvI r.nodes b a.1, mvI r.nodes b a.2.1, a.2.2))) a = id a := fun a ha => by
      obtain ⟨i1, i2, _⟩ := hk.arc a ha
      simp only [Function.comp, mv_back hn.1 i1, mv_back hn.1 i2, id]
    rw [List.map_congr_left this, List.map_id]
  have hnn : q.nodes = r.nodes := by rw [h2.nodes, h1.nodes]
  obtain ⟨n, X, Y, A⟩ := q
  obtain ⟨n', X', Y', A'⟩ := r
  simp only at hx hy ha hnn
  subst hx hy ha hnn
  rfl
theorem moved_ok {r m : Raw} {b : Int} (hk : r.Ok) (h : MovedTo b r m) : m.Ok := by
  have hn := hk.nodes
  have inv : ∀ i : Nat, (i : Int) < r.nodes → ∃ v : Nat, (v : Int) < r.nodes ∧ (mvI r.nodes b v).toNat = i := fun i hi => by
    have hu := mvI_range r.nodes (-b) i hn.1
    refine ⟨(mvI r.nodes (-b) i).toNat, by omega, ?_⟩
    rw [Int.toNat_of_nonneg hu.1]
    unfold mvI
    rw [Int.emod_add_emod, show (i : Int) + -b + b = i by omega, Int.emod_eq_of_lt (by omega) hi]; simp
  have mem : ∀ (L M : List Int), (M.length : Int) = r.nodes → (∀ v : Nat, (v : Int) < r.nodes → M[(mvI r.nodes b v).toNat]? = L[v]?) → ∀ x ∈ M, x ∈ L := fun L M hl hm x hx => by
    obtain ⟨i, hi, rfl⟩ := List.mem_iff_getElem.1 hx
    obtain ⟨v, hv, e⟩ := inv i (by omega)
    have h2 := hm v hv
    rw [e, List.getElem?_eq_getElem hi] at h2
    exact List.mem_of_getElem? h2.symm
  have hl1 := hk.lenX; have hl2 := hk.lenY; have hm := h.nodes; have hx := h.lenX; have hy := h.lenY
  refine ⟨by rw [hm]; exact hn, by omega, by omega, fun x h' => hk.x x (mem r.X m.X (by omega) h.x x h'), fun y h' => hk.y y (mem r.Y m.Y (by omega) h.y y h'), ?_, ?_⟩
  · rw [h.arcs, List.length_map]; exact hk.arcs
  · intro a ha
    rw [h.arcs] at ha
    obtain ⟨c, hc, rfl⟩ := List.mem_map.1 ha
    obtain ⟨_, _, h3⟩ := hk.arc c hc
    rw [hm]
    exact ⟨mvI_range _ _ _ hn.1, mvI_range _ _ _ hn.1, h3⟩
/-- all X, all weights one more -/
def bumpX (x : Int) : Int := IntKind.i64.wrap (x + 1)
def bumpA (a : Ar) : Ar := (a.1, a.2.1, IntKind.i64.wrap (a.2.2 + 1))
def Raw.bumped (r : Raw) : Raw := { r with X := r.X.map bumpX, arcs := r.arcs.map bumpA }
theorem bump_ne (x : Int) : IntKind.i64.wrap (x + 1) ≠ x := by rw [IntKind.wrap_i64]; omega
theorem bumped_same (r : Raw) : sameB r.bumped r = decide (r.X.length + r.arcs.length = 0) := by
  unfold sameB Raw.bumped
  cases hX : r.X with
  | cons x X =>
    rw [decide_eq_false, decide_eq_false]
    · simp
    · rintro ⟨_, h, _⟩
      simp only [List.map_cons, List.cons.injEq] at h
      exact bump_ne x h.1
  | nil =>
    cases hA : r.arcs with
    | cons a A =>
      rw [decide_eq_false, decide_eq_false]
      · simp
      · rintro ⟨_, _, _, h⟩
        simp only [List.map_cons, List.cons.injEq] at h
        exact bump_ne a.2.2 (congrArg (fun a : Ar => a.2.2) h.1)
    | nil => simp
end Go.Proofs.YtnkcmlngoeofgaaDoor
/- NetOnce, its walk. -/
namespace Go.Proofs.YtnkcmlngoeofgaaDoor
open Go.RowKit
/-- what the rounds keep: the counts, the rows -/
structure OnceI (w4 w : World) (lo B6 B7 M : Nat) (o6 o7 R T : List Int) (vl vm : Value) : Prop where
  b : Below w4.heap.size w4 w
  o6 : OwnI w (.slice (some ⟨B6, 0, none⟩) M M) B6 3 .i64 o6
  o7 : OwnI w (.slice (some ⟨B7, 0, none⟩) M M) B7 3 .i64 o7
  l : w.ownsRow lo 3 1 vl R.length (R.flatMap inC)
  m : w.ownsRow lo 3 1 vm T.length (T.flatMap inC)
structure OnceC (w4 : World) (lo B6 B7 : Nat) : Prop where
  h6 : w4.heap.size ≤ B6
  h7 : w4.heap.size ≤ B7
  l6 : B6 < lo
  l7 : B7 < lo
  ne : B6 ≠ B7
section
variable {w4 w w' : World} {lo B6 B7 M : Nat} {o6 o7 R T : List Int} {vl vm : Value}
theorem OnceI.below (h : OnceI w4 w lo B6 B7 M o6 o7 R T vl vm) (hb : Below w.heap.size w w') : OnceI w4 w' lo B6 B7 M o6 o7 R T vl vm :=
  ⟨h.b.next' hb, h.o6.later hb, h.o7.later hb, ownsRow_below h.l hb, ownsRow_below h.m hb⟩
theorem OnceI.set6 (h : OnceI w4 w lo B6 B7 M o6 o7 R T vl vm) (hc : OnceC w4 lo B6 B7) (x : Nat) (hx : x < o6.length) (u : Int) : OnceI w4 (w.setCell ⟨B6, x, none⟩ (.int .i64 u)) lo B6 B7 M (o6.set x u) o7 R T vl vm := by
  have agr : ∀ {v : Value} {n : Nat} {xs : List Value}, w.ownsRow lo 3 1 v n xs → (w.setCell ⟨B6, x, none⟩ (.int .i64 u)).ownsRow lo 3 1 v n xs := fun hr =>
    ownsRow_agree' hr fun c hc' => heap_setCell_other _ _ _ _ (fun e : c = B6 => by have := (ownsRow_blk' hr hc').1; have := hc.l6; omega)
  exact ⟨h.b.setCell (p := ⟨B6, x, none⟩) hc.h6 _, h.o6.set x hx u, h.o7.agree (heap_setCell_other _ _ _ _ (Ne.symm hc.ne)), agr h.l, agr h.m⟩
theorem OnceI.set7 (h : OnceI w4 w lo B6 B7 M o6 o7 R T vl vm) (hc : OnceC w4 lo B6 B7) (x : Nat) (hx : x < o7.length) (u : Int) : OnceI w4 (w.setCell ⟨B7, x, none⟩ (.int .i64 u)) lo B6 B7 M o6 (o7.set x u) R T vl vm := by
  have agr : ∀ {v : Value} {n : Nat} {xs : List Value}, w.ownsRow lo 3 1 v n xs → (w.setCell ⟨B7, x, none⟩ (.int .i64 u)).ownsRow lo 3 1 v n xs := fun hr =>
    ownsRow_agree' hr fun c hc' => heap_setCell_other _ _ _ _ (fun e : c = B7 => by have := (ownsRow_blk' hr hc').1; have := hc.l7; omega)
  exact ⟨h.b.setCell (p := ⟨B7, x, none⟩) hc.h7 _, h.o6.agree (heap_setCell_other _ _ _ _ hc.ne), h.o7.set x hx u, agr h.l, agr h.m⟩
end
/-- the cell of a row of ours -/
theorem ownCell {w : World} {lo : Nat} {e : TypeId} {gl n c : Nat} {R : List Int} (h : w.ownsRow lo e 1 (.slice (some ⟨gl, 0, none⟩) n c) R.length (R.flatMap inC)) (hn : n = R.length) {i : Nat} {x : Int} (hx : R[i]? = some x) : w.cell? ⟨gl, i, none⟩ = some (.int .i64 x) := by
  subst hn
  obtain ⟨hi, e⟩ := List.getElem?_eq_some_iff.1 hx
  obtain ⟨b, off, e2, hc⟩ := (slX_own rfl h).at i hi
  obtain ⟨rfl, rfl⟩ : gl = b ∧ 0 = off := by simpa using e2
  rw [Nat.zero_add, e] at hc
  exact hc
set_option maxRecDepth 100000 in
set_option maxHeartbeats 32000000 in
theorem netOnce_any (v : Value) (l : List Int) (w : World) (h : SlI w v .u8 l) (hg : HG w) : Calls Tryd.prog 7 #[v] w fun e w' => e = .returned (.bool true) ∧ Below w.heap.size w w' := by
  have HSl := Lib.hid h
  have HG0 := Lib.hid hg
  clear h hg
  go_enter Tryd.func7, Tryd.ntmps7
  go_wp2_with fail
  refine (works7_any w HG0.out).mono ?_
  rintro e w1 ⟨rfl, hb1⟩
  have HB1 := Lib.hid hb1
  clear hb1
  go_wp2_with fail
  refine (drawn7_any v l w1 (HSl.out.below HB1.out)).mono ?_
  rintro e w2 ⟨vg, g, rfl, hraw, hok, hgl, hb2⟩
  have HB2 := Lib.hid (HB1.out.next' hb2)
  have C := Lib.hid (new_any vg g w2 (HG0.out.later HB2.out) hraw.raw hok.few)
  obtain ⟨_, _, _, rfl, _⟩ := id hraw.raw
  have HOk := Lib.hid hok; have HGl := Lib.hid hgl
  clear hraw hb2 hok hgl
  go_wp2_with fail
  refine C.out.mono ?_
  rintro e w3 ⟨h | h, hb3⟩
  · exact absurd (g.ok_iff.2 HOk.out) h.1
  obtain ⟨_, p, rfl, hn⟩ := h
  have HB3 := Lib.hid (HB2.out.next' hb3); have HN := Lib.hid hn.all
  clear hn hb3 C
  go_wp2_with fail
  refine (turnedN_any p g w3 (HN.out _ (Below.refl _ _)) HOk.out.few HOk.out).mono ?_
  rintro e w4 ⟨q, rfl, hq, hb4⟩
  have HB4 := Lib.hid (HB3.out.next' hb4)
  have HNets := Lib.hid (show ∀ u, Below w4.heap.size w4 u → NetAt u p g ∧ NetAt u q g.turned from fun u hu => ⟨HN.out u (hb4.next' hu), hq.all u hu⟩)
  clear hq hb4 HN
  obtain ⟨M, hM⟩ : ∃ M, M = g.arcs.length := ⟨_, rfl⟩
  obtain ⟨N, hN⟩ : ∃ N : Nat, (N : Int) = g.nodes := ⟨g.nodes.toNat, by have := HOk.out.nodes; omega⟩
  have hMb : M ≤ 84 := by rw [hM]; exact HGl.out.2
  have hNb : N ≤ 12 := by have := HGl.out.1; omega
  have HM := Lib.hid hM; have HNn := Lib.hid hN
  have hends := ends_ok HOk.out hN
  have HEnds := Lib.hid hends
  have mk := fun u => run_make_ints (P := Tryd.prog) 62 3 .i64 8 Tryd.underlying62 (by kernel_rfl) M (by omega) (by omega) u
  clear hM hN hends
  go_upto_region 7 with fail
  go_cut [6, 7] from 18 (fun s6 s7 wx => ∃ B6 B7, s6 = .slice (some ⟨B6, 0, none⟩) M M ∧ s7 = .slice (some ⟨B7, 0, none⟩) M M ∧ Hid (Below w4.heap.size w4 wx ∧ Blk wx B6 (icells .i64 (List.replicate M 0)) 3 (0, 0) ∧ Blk wx B7 (icells .i64 (List.replicate M 0)) 3 (0, 0) ∧ w4.heap.size ≤ B6 ∧ w4.heap.size ≤ B7 ∧ B6 ≠ B7))
  case first =>
    go_wp2_with fail
    refine wp_region_heldD (fun _ => True) 7 rfl ?_
    change heldD _ _ _ _ _ _ _ 8 _ _ w4.drew
    have hd0 : Below w4.heap.size w4 w4.drew := (Below.refl _ _).drew
    have hA : Calls Tryd.prog 32 #[.pointer (some ⟨p, 0, none⟩)] w4.drew fun e w' => e = .returned (.int .i64 (M : Nat)) ∧ w' = w4.drew := by
      rw [HM.out]; exact arcs_any p g _ (HNets.out _ hd0).1
    obtain ⟨u1, hu1⟩ : ∃ u, u = w4.drew.alloc (.cells (icells .i64 (List.replicate M 0)) 3) := ⟨_, rfl⟩
    have hA1 : Calls Tryd.prog 32 #[.pointer (some ⟨p, 0, none⟩)] u1 fun e w' => e = .returned (.int .i64 (M : Nat)) ∧ w' = u1 := by
      rw [HM.out]; exact arcs_any p g _ (HNets.out _ (by rw [hu1]; exact hd0.alloc (Nat.le_refl _) _)).1
    have hb1 : Below w4.heap.size w4 u1 := by rw [hu1]; exact hd0.alloc (Nat.le_refl _) _
    have k1 : Blk u1 w4.heap.size (icells .i64 (List.replicate M 0)) 3 (0, 0) := by rw [hu1]; exact Blk.new w4.drew _ _ _
    have hs1 : u1.heap.size = w4.heap.size + 1 := by rw [hu1]; simp
    obtain ⟨u2, hu2⟩ : ∃ u, u = u1.alloc (.cells (icells .i64 (List.replicate M 0)) 3) := ⟨_, rfl⟩
    have hb2 : Below u1.heap.size u1 u2 := by rw [hu2]; exact (Below.refl _ _).alloc (Nat.le_refl _) _
    have k2 : Blk u2 (w4.heap.size + 1) (icells .i64 (List.replicate M 0)) 3 (0, 0) := by rw [hu2, ← hs1]; exact Blk.new _ _ _ _
    have k1' := k1.below hb2 k1.lt
    have HRel := Lib.hid (And.intro (hb1.next' hb2) (And.intro k1' k2))
    have hmA : (Instr.makeSlice 62 (.int .i64 M) (.int .i64 M)).run Tryd.prog w4.drew = .ok (.slice (some ⟨w4.heap.size, 0, none⟩) M M) u1 := by rw [hu1]; exact mk w4.drew
    have hmB : (Instr.makeSlice 62 (.int .i64 M) (.int .i64 M)).run Tryd.prog u1 = .ok (.slice (some ⟨w4.heap.size + 1, 0, none⟩) M M) u2 := by rw [hu2, ← hs1]; exact mk u1
    clear mk hu1 hu2 hb1 hb2 k1 k1' k2 hs1 hd0
    refine heldD_takeF (i := 0) (v := .pointer (some ⟨p, 0, none⟩)) rfl rfl rfl (by kernel_rfl) (by kernel_rfl) (by kernel_rfl) (by kernel_rfl) (fun _ _ _ h => h) (by rfl) (fun w => ⟨by rfl, by go_simp⟩) (fun _ => trivial) ?_
    simp only [List.setIfInBounds_toArray, List.set_cons_zero, List.set_cons_succ]
    refine heldD_takeF (i := 3) (v := .pointer (some ⟨p, 0, none⟩)) rfl rfl rfl (by kernel_rfl) (by kernel_rfl) (by kernel_rfl) (by kernel_rfl) (fun _ _ _ h => h) (by rfl) (fun w => ⟨by rfl, by go_simp⟩) (fun _ => trivial) ?_
    simp only [List.setIfInBounds_toArray, List.set_cons_zero, List.set_cons_succ]
    refine heldD_one (i := 1) (by kernel_rfl) ?_
    refine wpOpIn_calls' (f := 32) (args := #[.pointer (some ⟨p, 0, none⟩)]) rfl rfl (by rfl) (by go_simp) hA ?_
    rintro e _ ⟨rfl, rfl⟩
    refine ⟨_, rfl, fun _ => trivial, ?_⟩
    simp only [List.setIfInBounds_toArray, List.set_cons_zero, List.set_cons_succ]
    refine heldD_two (i := 2) (k := 4) (by kernel_rfl) ?_ ?_
    · refine wpOpIn_value (v := .slice (some ⟨w4.heap.size, 0, none⟩) M M) (w' := u1) rfl rfl rfl (by rfl) (by rfl) (by go_simp) ?_
      refine ⟨fun _ => trivial, ?_⟩
      simp only [List.setIfInBounds_toArray, List.set_cons_zero, List.set_cons_succ]
      refine heldD_one (i := 4) (by kernel_rfl) ?_
      refine wpOpIn_calls' (f := 32) (args := #[.pointer (some ⟨p, 0, none⟩)]) rfl rfl (by rfl) (by go_simp) hA1 ?_
      rintro e _ ⟨rfl, rfl⟩
      refine ⟨_, rfl, fun _ => trivial, ?_⟩
      simp only [List.setIfInBounds_toArray, List.set_cons_zero, List.set_cons_succ]
      refine heldD_takeF (i := 6) (v := .slice (some ⟨w4.heap.size, 0, none⟩) M M) rfl rfl rfl (by kernel_rfl) (by kernel_rfl) (by kernel_rfl) (by kernel_rfl) (fun _ _ _ h => h) (by rfl) (fun w => ⟨by rfl, by go_simp⟩) (fun _ => trivial) ?_
      simp only [List.setIfInBounds_toArray, List.set_cons_zero, List.set_cons_succ]
      refine heldD_one (i := 5) (by kernel_rfl) ?_
      refine wpOpIn_value (v := .slice (some ⟨w4.heap.size + 1, 0, none⟩) M M) (w' := u2) rfl rfl rfl (by rfl) (by rfl) (by go_simp) ?_
      refine ⟨fun _ => trivial, ?_⟩
      simp only [List.setIfInBounds_toArray, List.set_cons_zero, List.set_cons_succ]
      refine heldD_one (i := 7) (by kernel_rfl) ?_
      refine wpOpIn_value (v := .slice (some ⟨w4.heap.size + 1, 0, none⟩) M M) (w' := u2) rfl rfl rfl (by rfl) (by rfl) (by go_simp) ?_
      refine ⟨fun h => (by cases h), ?_⟩
      simp only [List.setIfInBounds_toArray, List.set_cons_zero, List.set_cons_succ]
      refine heldD_done (by kernel_rfl) ?_ _
      go_wp2_with fail
      go_meet
      exact ⟨_, _, rfl, rfl, Lib.hid ⟨HRel.out.1, HRel.out.2.1, HRel.out.2.2, Nat.le_refl _, Nat.le_succ _, by omega⟩⟩
    · refine wpOpIn_calls' (f := 32) (args := #[.pointer (some ⟨p, 0, none⟩)]) rfl rfl (by rfl) (by go_simp) hA ?_
      rintro e _ ⟨rfl, rfl⟩
      refine ⟨_, rfl, fun _ => trivial, ?_⟩
      simp only [List.setIfInBounds_toArray, List.set_cons_zero, List.set_cons_succ]
      refine heldD_two (i := 2) (k := 5) (by kernel_rfl) ?_ ?_
      · refine wpOpIn_value (v := .slice (some ⟨w4.heap.size, 0, none⟩) M M) (w' := u1) rfl rfl rfl (by rfl) (by rfl) (by go_simp) ?_
        refine ⟨fun _ => trivial, ?_⟩
        simp only [List.setIfInBounds_toArray, List.set_cons_zero, List.set_cons_succ]
        refine heldD_takeF (i := 6) (v := .slice (some ⟨w4.heap.size, 0, none⟩) M M) rfl rfl rfl (by kernel_rfl) (by kernel_rfl) (by kernel_rfl) (by kernel_rfl) (fun _ _ _ h => h) (by rfl) (fun w => ⟨by rfl, by go_simp⟩) (fun _ => trivial) ?_
        simp only [List.setIfInBounds_toArray, List.set_cons_zero, List.set_cons_succ]
        refine heldD_one (i := 5) (by kernel_rfl) ?_
        refine wpOpIn_value (v := .slice (some ⟨w4.heap.size + 1, 0, none⟩) M M) (w' := u2) rfl rfl rfl (by rfl) (by rfl) (by go_simp) ?_
        refine ⟨fun _ => trivial, ?_⟩
        simp only [List.setIfInBounds_toArray, List.set_cons_zero, List.set_cons_succ]
        refine heldD_one (i := 7) (by kernel_rfl) ?_
        refine wpOpIn_value (v := .slice (some ⟨w4.heap.size + 1, 0, none⟩) M M) (w' := u2) rfl rfl rfl (by rfl) (by rfl) (by go_simp) ?_
        refine ⟨fun h => (by cases h), ?_⟩
        simp only [List.setIfInBounds_toArray, List.set_cons_zero, List.set_cons_succ]
        refine heldD_done (by kernel_rfl) ?_ _
        go_wp2_with fail
        go_meet
        exact ⟨_, _, rfl, rfl, Lib.hid ⟨HRel.out.1, HRel.out.2.1, HRel.out.2.2, Nat.le_refl _, Nat.le_succ _, by omega⟩⟩
      · refine wpOpIn_value (v := .slice (some ⟨w4.heap.size, 0, none⟩) M M) (w' := u1) rfl rfl rfl (by rfl) (by rfl) (by go_simp) ?_
        refine ⟨fun _ => trivial, ?_⟩
        simp only [List.setIfInBounds_toArray, List.set_cons_zero, List.set_cons_succ]
        refine heldD_one (i := 2) (by kernel_rfl) ?_
        refine wpOpIn_value (v := .slice (some ⟨w4.heap.size + 1, 0, none⟩) M M) (w' := u2) rfl rfl rfl (by rfl) (by rfl) (by go_simp) ?_
        refine ⟨fun _ => trivial, ?_⟩
        simp only [List.setIfInBounds_toArray, List.set_cons_zero, List.set_cons_succ]
        refine heldD_takeF (i := 6) (v := .slice (some ⟨w4.heap.size + 1, 0, none⟩) M M) rfl rfl rfl (by kernel_rfl) (by kernel_rfl) (by kernel_rfl) (by kernel_rfl) (fun _ _ _ h => h) (by rfl) (fun w => ⟨by rfl, by go_simp⟩) (fun _ => trivial) ?_
        simp only [List.setIfInBounds_toArray, List.set_cons_zero, List.set_cons_succ]
        refine heldD_one (i := 7) (by kernel_rfl) ?_
        refine wpOpIn_value (v := .slice (some ⟨w4.heap.size, 0, none⟩) M M) (w' := u2) rfl rfl rfl (by rfl) (by rfl) (by go_simp) ?_
        refine ⟨fun h => (by cases h), ?_⟩
        simp only [List.setIfInBounds_toArray, List.set_cons_zero, List.set_cons_succ]
        refine heldD_done (by kernel_rfl) ?_ _
        go_wp2_with fail
        go_meet
        exact ⟨_, _, rfl, rfl, Lib.hid ⟨HRel.out.1, HRel.out.2.2, HRel.out.2.1, Nat.le_succ _, Nat.le_refl _, by omega⟩⟩
  case rest =>
  obtain ⟨B6, B7, rfl, rfl, hcut⟩ := hcut
  have HNe := Lib.hid hcut.out.2.2.2
  have hO6 : OwnI wc (.slice (some ⟨B6, 0, none⟩) M M) B6 3 .i64 (cntL endF g.arcs 0 0) := by
    rw [cnt_zero HEnds.out.1, ← HM.out]
    exact ⟨M, #[], by rw [List.length_replicate], by rw [Array.append_empty]; exact hcut.out.2.1, by simp, by unfold maxLen; omega⟩
  have hO7 : OwnI wc (.slice (some ⟨B7, 0, none⟩) M M) B7 3 .i64 (cntL endT g.arcs 0 0) := by
    rw [cnt_zero HEnds.out.2, ← HM.out]
    exact ⟨M, #[], by rw [List.length_replicate], by rw [Array.append_empty]; exact hcut.out.2.2.1, by simp, by unfold maxLen; omega⟩
  have HO := Lib.hid (And.intro hcut.out.1 (And.intro hO6 hO7))
  clear hO6 hO7 hcut mk
  go_wp2_with fail
  go_loopw [8] (fun i wr => ∃ (v : Nat), v ≤ N ∧ i = .int .i64 v ∧ Hid (Below w4.heap.size w4 wr ∧ OwnI wr (.slice (some ⟨B6, 0, none⟩) M M) B6 3 .i64 (cntL endF g.arcs v 0) ∧ OwnI wr (.slice (some ⟨B7, 0, none⟩) M M) B7 3 .i64 (cntL endT g.arcs v 0))) (fun i _ => N - (intOf i).toNat)
  case atStart => exact ⟨0, by omega, rfl, HO⟩
  clear HO
  obtain ⟨v, hv, rfl, hrel⟩ := hrel
  have HO := hrel
  clear hrel
  have hNd := Lib.hid (show Calls Tryd.prog 33 #[.pointer (some ⟨p, 0, none⟩)] wr fun e w' => e = .returned (.int .i64 (N : Int)) ∧ wr = w' by rw [HNn.out]; exact (nodes_any p g wr (HNets.out _ HO.out.1).1).mono fun _ _ h => ⟨h.1, h.2.symm⟩)
  by_cases hlt : v < N
  case pos =>
    have hltI : (v : Int) < (N : Int) := by omega
    obtain ⟨R, hR⟩ : ∃ R, R = rowK endF g.arcs v g.arcs.length := ⟨_, rfl⟩
    obtain ⟨T, hT⟩ : ∃ T, T = rowK endT g.arcs v g.arcs.length := ⟨_, rfl⟩
    have hOut := fun u hu => out_any p g (v : Int) u (HNets.out u hu).1 (few_rows HOk.out.arcs)
    have hIn := fun u hu => inn_any p g (v : Int) u (HNets.out u hu).1 (few_rows HOk.out.arcs)
    rw [rowV_at HNn.out hlt, ← hR] at hOut
    rw [rowV_at HNn.out hlt, ← hT] at hIn
    have hRb : R.length ≤ 84 := by rw [hR]; have := rowK_le endF g.arcs v g.arcs.length; have := HGl.out.2; omega
    have hTb : T.length ≤ 84 := by rw [hT]; have := rowK_le endT g.arcs v g.arcs.length; have := HGl.out.2; omega
    have HR := Lib.hid hR; have HT := Lib.hid hT
    have HOut := Lib.hid hOut; have HIn := Lib.hid hIn
    clear hR hT hOut hIn
    go_wp2_with (refine hNd.out.mono ?_; rintro e _ ⟨rfl, rfl⟩)
    refine (HOut.out wr HO.out.1).mono ?_
    rintro e w5 ⟨vl, rfl, hol, hb5⟩
    obtain ⟨lo, hlo⟩ : ∃ lo, lo = wr.heap.size := ⟨_, rfl⟩
    rw [← hlo] at hol
    obtain ⟨la, lc, rfl, hla⟩ := ownForm hol
    have Hb5 := Lib.hid hb5; have HOl := Lib.hid hol
    clear hb5 hol
    go_wp2_with fail
    refine (HIn.out w5 (HO.out.1.next' Hb5.out)).mono ?_
    rintro e w6 ⟨vm, rfl, hom, hb6⟩
    obtain ⟨ma, mc, rfl, hma⟩ := ownForm hom
    have hlo6 : lo ≤ w5.heap.size := by rw [hlo]; exact Hb5.out.size
    have hC : OnceC w4 lo B6 B7 := ⟨HNe.out.1, HNe.out.2.1, by rw [hlo]; exact HO.out.2.1.lt, by rw [hlo]; exact HO.out.2.2.lt, HNe.out.2.2⟩
    have hI : OnceI w4 w6 lo B6 B7 M (cntL endF g.arcs v 0) (cntL endT g.arcs v 0) R T (.slice la R.length lc) (.slice ma T.length mc) :=
      ⟨(HO.out.1.next' Hb5.out).next' hb6, (HO.out.2.1.later Hb5.out).later hb6, (HO.out.2.2.later Hb5.out).later hb6, ownsRow_below HOl.out hb6, ownsRow_le hom hlo6⟩
    have HI := Lib.hid hI; have HC := Lib.hid hC
    clear hI hC hom hb6 HOl Hb5 HO hNd hlo hlo6 HOut HIn
    go_wp2_with fail
    go_loopw [11] (fun i wr => ∃ (i' : Nat), i' ≤ R.length ∧ i = .int .i64 i' ∧ Hid (OnceI w4 wr lo B6 B7 M (cntL endF g.arcs v i') (cntL endT g.arcs v 0) R T (.slice la R.length lc) (.slice ma T.length mc))) (fun i _ => R.length - (intOf i).toNat)
    case atStart => exact ⟨0, by omega, rfl, HI⟩
    clear HI
    obtain ⟨i, hi, rfl, hrel⟩ := hrel
    have HI := hrel
    clear hrel
    by_cases hil : i < R.length
    case pos =>
      have hilI : (i : Int) < (R.length : Int) := by omega
      have hi0 : (0 : Int) ≤ (i : Int) := by omega
      have hilK : i < (rowK endF g.arcs v g.arcs.length).length := by rw [← HR.out]; exact hil
      obtain ⟨x, hx, hRx, hc0, hcs, hE⟩ := cnt_step hilK
      have hRi : R[i]? = some (x : Int) := by rw [HR.out, List.getElem?_eq_getElem hilK, hRx]
      obtain ⟨gl, rfl⟩ := hla (by omega)
      have dc := ownCell HI.out.l rfl hRi
      obtain ⟨ar, har⟩ : ∃ ar, ar = g.arcs[x]?.getD (0, 0, 0) := ⟨_, rfl⟩
      rw [← har] at hE
      obtain ⟨a0, a1, a2⟩ := ar
      obtain rfl : a0 = (v : Int) := hE
      have hxM : (x : Int) < (M : Int) := by rw [HM.out]; omega
      have hx0 : (0 : Int) ≤ (x : Int) := by omega
      have hArc := Lib.hid (arc_is p g (x : Int) (v : Int) a1 a2 true wr (HNets.out _ HI.out.b).1 (by rw [if_pos ⟨by omega, by omega⟩, Int.toNat_natCast, ← har]) (decide_eq_true ⟨by omega, by omega⟩))
      have HE := Lib.hid hcs; have HRi := Lib.hid hRi; have HC0 := Lib.hid hc0; have HX := Lib.hid hx
      have hPrev : i = 0 ∨ ∃ (j : Nat) (y : Int), (i = j + 1 ∧ y < (x : Int)) ∧ Hid (R[j]? = some y) := by
        rcases Nat.eq_zero_or_pos i with h | h
        · exact .inl h
        · refine .inr ⟨i - 1, (rowK endF g.arcs v g.arcs.length)[i - 1]'(by omega), ⟨by omega, ?_⟩, Lib.hid ?_⟩
          · rw [← hRx]; exact row_rise (by omega) hilK
          · rw [HR.out, List.getElem?_eq_getElem (by omega)]
      clear hRx hc0 hcs har hRi hx hilK
      go_wp2_with fail
      refine hArc.out.mono ?_
      rintro e w7 ⟨rfl, hb7⟩
      obtain ⟨w8, hw8⟩ : ∃ u, u = w7.alloc (.cells #[.int .i64 (v : Int), .int .i64 a1, .int .i64 a2] 54) := ⟨_, rfl⟩
      obtain ⟨Ba, hBa⟩ : ∃ b, b = w7.heap.size := ⟨_, rfl⟩
      have hb8 : Below wr.heap.size wr w8 := hb7.next' (by rw [hw8]; exact (Below.refl _ _).alloc (Nat.le_refl _) _)
      have kA : Blk w8 Ba #[.int .i64 (v : Int), .int .i64 a1, .int .i64 a2] 54 (0, 0) := by rw [hw8, hBa]; exact Blk.new _ _ _ _
      have tA := kA.cell 0
      change w8.cell? ⟨Ba, 0, none⟩ = some (.int .i64 (v : Int)) at tA
      have HI8 := Lib.hid (HI.out.below hb8)
      have HW8 := Lib.hid hw8; have HBa := Lib.hid hBa
      have dc8 := ownCell HI8.out.l rfl HRi.out
      clear hw8 hBa hb7 hb8 kA dc hArc HI
      rcases hPrev with h0 | ⟨j, y, ⟨hj, hyx⟩, hRj⟩
      case inl =>
        subst h0
        change w8.cell? ⟨gl, 0, none⟩ = some (.int .i64 (x : Int)) at dc8
        go_wp2_with fail
        rw [← HW8.out, ← HBa.out]
        clear HW8 HBa
        go_wp2_with fail
        go_quiet (fail)
        generalize hwd : w8.drewN _ = wd at *
        have hbd : Below w8.heap.size w8 wd := by rw [← hwd]; exact below_drewN (Below.refl _ _) _
        have HI9 := Lib.hid (HI8.out.below hbd)
        have dc9 := ownCell HI9.out.l rfl HRi.out
        have dx9 : wd.cell? ⟨B6, x, none⟩ = some (.int .i64 0) := by
          obtain ⟨hxl, hxe⟩ := List.getElem?_eq_some_iff.1 HC0.out
          rw [HI9.out.o6.cell x hxl, hxe]
        have fx9 := HI9.out.o6.free x
        have HF := Lib.hid (HI9.out.set6 HC.out x (by obtain ⟨hxl, _⟩ := List.getElem?_eq_some_iff.1 HC0.out; exact hxl) 1)
        rw [← HE.out] at HF
        clear hwd hbd HI8 HI9 dc8 tA
        go_wp2_with fail
        go_roundw
        case rel => exact ⟨_, by omega, by go_num, HF⟩
        case measure => simp [intOf]; omega
      case inr =>
        have f1 : IntKind.i64.wrap ((i : Int) - 1) = (j : Int) := by rw [wrap_small _ (by omega) (by omega)]; omega
        have hj0 : (0 : Int) ≤ (j : Int) := by omega
        have hjl : (j : Int) < (R.length : Int) := by omega
        have h0i : (0 : Int) < (i : Int) := by omega
        have h0n : 0 < i := by omega
        have h0b : decide ((0 : Int) < (i : Int)) = true := decide_eq_true h0i
        have h0c : decide (0 < i) = true := decide_eq_true h0n
        have dj8 := ownCell HI8.out.l rfl hRj.out
        have hle : ¬ ((x : Int) ≤ y) := by omega
        have hleb : decide ((x : Int) ≤ y) = false := decide_eq_false hle
        clear hj hRj
        go_wp2_with fail
        rw [← HW8.out, ← HBa.out]
        clear HW8 HBa
        go_wp2_with fail
        go_quiet (fail)
        generalize hwd : w8.drewN _ = wd at *
        have hbd : Below w8.heap.size w8 wd := by rw [← hwd]; exact below_drewN (Below.refl _ _) _
        have HI9 := Lib.hid (HI8.out.below hbd)
        have dc9 := ownCell HI9.out.l rfl HRi.out
        have dx9 : wd.cell? ⟨B6, x, none⟩ = some (.int .i64 0) := by
          obtain ⟨hxl, hxe⟩ := List.getElem?_eq_some_iff.1 HC0.out
          rw [HI9.out.o6.cell x hxl, hxe]
        have fx9 := HI9.out.o6.free x
        have HF := Lib.hid (HI9.out.set6 HC.out x (by obtain ⟨hxl, _⟩ := List.getElem?_eq_some_iff.1 HC0.out; exact hxl) 1)
        rw [← HE.out] at HF
        clear hwd hbd HI8 HI9 dc8 tA
        go_wp2_with fail
        go_roundw
        case rel => exact ⟨_, by omega, by go_num, HF⟩
        case measure => simp [intOf]; omega
    obtain rfl : i = R.length := by omega
    have HI2 := Lib.hid HI.out
    rw [show cntL endF g.arcs v R.length = cntL endF g.arcs (v + 1) 0 by rw [HR.out]; exact cnt_end endF g.arcs v] at HI2
    clear HI
    have HI := HI2
    clear HI2
    go_wp2_with fail
    go_loopw [14] (fun i wr => ∃ (i' : Nat), i' ≤ T.length ∧ i = .int .i64 i' ∧ Hid (OnceI w4 wr lo B6 B7 M (cntL endF g.arcs (v + 1) 0) (cntL endT g.arcs v i') R T (.slice la R.length lc) (.slice ma T.length mc))) (fun i _ => T.length - (intOf i).toNat)
    case atStart => exact ⟨0, by omega, rfl, HI⟩
    clear HI
    obtain ⟨i, hi, rfl, hrel⟩ := hrel
    have HI := hrel
    clear hrel
    by_cases hil : i < T.length
    case pos =>
      have hilI : (i : Int) < (T.length : Int) := by omega
      have hi0 : (0 : Int) ≤ (i : Int) := by omega
      have hilK : i < (rowK endT g.arcs v g.arcs.length).length := by rw [← HT.out]; exact hil
      obtain ⟨x, hx, hRx, hc0, hcs, hE⟩ := cnt_step hilK
      have hRi : T[i]? = some (x : Int) := by rw [HT.out, List.getElem?_eq_getElem hilK, hRx]
      obtain ⟨gl, rfl⟩ := hma (by omega)
      have dc := ownCell HI.out.m rfl hRi
      obtain ⟨ar, har⟩ : ∃ ar, ar = g.arcs[x]?.getD (0, 0, 0) := ⟨_, rfl⟩
      rw [← har] at hE
      obtain ⟨a0, a1, a2⟩ := ar
      obtain rfl : a1 = (v : Int) := hE
      have hxM : (x : Int) < (M : Int) := by rw [HM.out]; omega
      have hx0 : (0 : Int) ≤ (x : Int) := by omega
      have hArc := Lib.hid (arc_is p g (x : Int) a0 (v : Int) a2 true wr (HNets.out _ HI.out.b).1 (by rw [if_pos ⟨by omega, by omega⟩, Int.toNat_natCast, ← har]) (decide_eq_true ⟨by omega, by omega⟩))
      have HE := Lib.hid hcs; have HRi := Lib.hid hRi; have HC0 := Lib.hid hc0; have HX := Lib.hid hx
      have hPrev : i = 0 ∨ ∃ (j : Nat) (y : Int), (i = j + 1 ∧ y < (x : Int)) ∧ Hid (T[j]? = some y) := by
        rcases Nat.eq_zero_or_pos i with h | h
        · exact .inl h
        · refine .inr ⟨i - 1, (rowK endT g.arcs v g.arcs.length)[i - 1]'(by omega), ⟨by omega, ?_⟩, Lib.hid ?_⟩
          · rw [← hRx]; exact row_rise (by omega) hilK
          · rw [HT.out, List.getElem?_eq_getElem (by omega)]
      clear hRx hc0 hcs har hRi hx hilK
      go_wp2_with fail
      refine hArc.out.mono ?_
      rintro e w7 ⟨rfl, hb7⟩
      obtain ⟨w8, hw8⟩ : ∃ u, u = w7.alloc (.cells #[.int .i64 a0, .int .i64 (v : Int), .int .i64 a2] 54) := ⟨_, rfl⟩
      obtain ⟨Ba, hBa⟩ : ∃ b, b = w7.heap.size := ⟨_, rfl⟩
      have hb8 : Below wr.heap.size wr w8 := hb7.next' (by rw [hw8]; exact (Below.refl _ _).alloc (Nat.le_refl _) _)
      have kA : Blk w8 Ba #[.int .i64 a0, .int .i64 (v : Int), .int .i64 a2] 54 (0, 0) := by rw [hw8, hBa]; exact Blk.new _ _ _ _
      have tA := kA.cell 1
      change w8.cell? ⟨Ba, 1, none⟩ = some (.int .i64 (v : Int)) at tA
      have HI8 := Lib.hid (HI.out.below hb8)
      have HW8 := Lib.hid hw8; have HBa := Lib.hid hBa
      have dc8 := ownCell HI8.out.m rfl HRi.out
      clear hw8 hBa hb7 hb8 kA dc hArc HI
      rcases hPrev with h0 | ⟨j, y, ⟨hj, hyx⟩, hRj⟩
      case inl =>
        subst h0
        change w8.cell? ⟨gl, 0, none⟩ = some (.int .i64 (x : Int)) at dc8
        go_wp2_with fail
        rw [← HW8.out, ← HBa.out]
        clear HW8 HBa
        go_wp2_with fail
        go_quiet (fail)
        generalize hwd : w8.drewN _ = wd at *
        have hbd : Below w8.heap.size w8 wd := by rw [← hwd]; exact below_drewN (Below.refl _ _) _
        have HI9 := Lib.hid (HI8.out.below hbd)
        have dc9 := ownCell HI9.out.m rfl HRi.out
        have dx9 : wd.cell? ⟨B7, x, none⟩ = some (.int .i64 0) := by
          obtain ⟨hxl, hxe⟩ := List.getElem?_eq_some_iff.1 HC0.out
          rw [HI9.out.o7.cell x hxl, hxe]
        have fx9 := HI9.out.o7.free x
        have HF := Lib.hid (HI9.out.set7 HC.out x (by obtain ⟨hxl, _⟩ := List.getElem?_eq_some_iff.1 HC0.out; exact hxl) 1)
        rw [← HE.out] at HF
        clear hwd hbd HI8 HI9 dc8 tA
        go_wp2_with fail
        go_roundw
        case rel => exact ⟨_, by omega, by go_num, HF⟩
        case measure => simp [intOf]; omega
      case inr =>
        have f1 : IntKind.i64.wrap ((i : Int) - 1) = (j : Int) := by rw [wrap_small _ (by omega) (by omega)]; omega
        have hj0 : (0 : Int) ≤ (j : Int) := by omega
        have hjl : (j : Int) < (T.length : Int) := by omega
        have h0i : (0 : Int) < (i : Int) := by omega
        have h0n : 0 < i := by omega
        have h0b : decide ((0 : Int) < (i : Int)) = true := decide_eq_true h0i
        have h0c : decide (0 < i) = true := decide_eq_true h0n
        have dj8 := ownCell HI8.out.m rfl hRj.out
        have hle : ¬ ((x : Int) ≤ y) := by omega
        have hleb : decide ((x : Int) ≤ y) = false := decide_eq_false hle
        clear hj hRj
        go_wp2_with fail
        rw [← HW8.out, ← HBa.out]
        clear HW8 HBa
        go_wp2_with fail
        go_quiet (fail)
        generalize hwd : w8.drewN _ = wd at *
        have hbd : Below w8.heap.size w8 wd := by rw [← hwd]; exact below_drewN (Below.refl _ _) _
        have HI9 := Lib.hid (HI8.out.below hbd)
        have dc9 := ownCell HI9.out.m rfl HRi.out
        have dx9 : wd.cell? ⟨B7, x, none⟩ = some (.int .i64 0) := by
          obtain ⟨hxl, hxe⟩ := List.getElem?_eq_some_iff.1 HC0.out
          rw [HI9.out.o7.cell x hxl, hxe]
        have fx9 := HI9.out.o7.free x
        have HF := Lib.hid (HI9.out.set7 HC.out x (by obtain ⟨hxl, _⟩ := List.getElem?_eq_some_iff.1 HC0.out; exact hxl) 1)
        rw [← HE.out] at HF
        clear hwd hbd HI8 HI9 dc8 tA
        go_wp2_with fail
        go_roundw
        case rel => exact ⟨_, by omega, by go_num, HF⟩
        case measure => simp [intOf]; omega
    obtain rfl : i = T.length := by omega
    have HI2 := Lib.hid HI.out
    rw [show cntL endT g.arcs v T.length = cntL endT g.arcs (v + 1) 0 by rw [HT.out]; exact cnt_end endT g.arcs v] at HI2
    clear HI
    have HI := HI2
    clear HI2
    go_wp2_with fail
    have hTo := fun u hu => out_any q g.turned (v : Int) u (HNets.out u hu).2 (few_rows (by show (g.arcs.map turnA).length ≤ _; rw [List.length_map]; exact HOk.out.arcs))
    have hTi := fun u hu => inn_any q g.turned (v : Int) u (HNets.out u hu).2 (few_rows (by show (g.arcs.map turnA).length ≤ _; rw [List.length_map]; exact HOk.out.arcs))
    have eT : rowV endF g.turned (v : Int) = T := by
      rw [rowV_at (g := g.turned) HNn.out hlt, HT.out]
      show rowK endF (g.arcs.map turnA) v (g.arcs.map turnA).length = _
      rw [List.length_map]
      exact rowK_turned g.arcs v endF endT turnA (fun _ => rfl) _ (Nat.le_refl _)
    have eR : rowV endT g.turned (v : Int) = R := by
      rw [rowV_at (g := g.turned) HNn.out hlt, HR.out]
      show rowK endT (g.arcs.map turnA) v (g.arcs.map turnA).length = _
      rw [List.length_map]
      exact rowK_turned g.arcs v endT endF turnA (fun _ => rfl) _ (Nat.le_refl _)
    rw [eT] at hTo; rw [eR] at hTi
    have HTi := Lib.hid hTi
    clear eT eR hTi
    refine (hTo wr HI.out.b).mono ?_
    clear hTo
    rintro e w7 ⟨vl, rfl, hol, hb7⟩
    have HI7 := Lib.hid (HI.out.below hb7)
    have hi7 := ints_any vl (.slice ma T.length mc) T T w7 (slX_own rfl hol) (slX_own rfl HI7.out.m)
    rw [decide_eq_true rfl] at hi7
    have Hi7 := Lib.hid hi7
    obtain ⟨_, _, rfl, _⟩ := ownForm hol
    clear hol hb7 HI hi7
    go_wp2_with fail
    refine Hi7.out.mono ?_
    rintro e w8 ⟨rfl, hb8⟩
    have HI8 := Lib.hid (HI7.out.below hb8)
    clear hb8 HI7 Hi7
    go_wp2_with fail
    refine (HTi.out w8 HI8.out.b).mono ?_
    rintro e w9 ⟨vl, rfl, hol, hb9⟩
    have HI9 := Lib.hid (HI8.out.below hb9)
    have hi9 := ints_any vl (.slice la R.length lc) R R w9 (slX_own rfl hol) (slX_own rfl HI9.out.l)
    rw [decide_eq_true rfl] at hi9
    have Hi9 := Lib.hid hi9
    obtain ⟨_, _, rfl, _⟩ := ownForm hol
    clear hol hb9 HI8 hi9 HTi
    go_wp2_with fail
    refine Hi9.out.mono ?_
    rintro e w10 ⟨rfl, hb10⟩
    have HI10 := Lib.hid (HI9.out.below hb10)
    clear hb10 HI9 Hi9
    go_wp2_with fail
    go_roundw
    case rel => exact ⟨v + 1, by omega, by go_num, Lib.hid ⟨HI10.out.b, HI10.out.o6, HI10.out.o7⟩⟩
    case measure => simp [intOf]; omega
  obtain rfl : N = v := by omega
  have hAll6 : OwnI wr (.slice (some ⟨B6, 0, none⟩) M M) B6 3 .i64 (List.replicate M 1) := by have h := HO.out.2.1; rw [cnt_all HEnds.out.1, ← HM.out] at h; exact h
  have hAll7 : OwnI wr (.slice (some ⟨B7, 0, none⟩) M M) B7 3 .i64 (List.replicate M 1) := by have h := HO.out.2.2; rw [cnt_all HEnds.out.2, ← HM.out] at h; exact h
  have HA := Lib.hid (And.intro HO.out.1 (And.intro hAll6 hAll7))
  clear hAll6 hAll7 HO
  go_wp2_with (refine hNd.out.mono ?_; rintro e _ ⟨rfl, rfl⟩)
  clear hNd
  go_loopw [17] (fun i wr => ∃ (a : Nat), a ≤ M ∧ i = .int .i64 a ∧ Hid (Below w4.heap.size w4 wr ∧ OwnI wr (.slice (some ⟨B6, 0, none⟩) M M) B6 3 .i64 (List.replicate M 1) ∧ OwnI wr (.slice (some ⟨B7, 0, none⟩) M M) B7 3 .i64 (List.replicate M 1))) (fun i _ => M - (intOf i).toNat)
  case atStart => exact ⟨0, by omega, rfl, HA⟩
  clear HA
  obtain ⟨a, ha, rfl, hrel⟩ := hrel
  have HA := hrel
  clear hrel
  have hArcs := Lib.hid (show Calls Tryd.prog 32 #[.pointer (some ⟨p, 0, none⟩)] wr fun e w' => e = .returned (.int .i64 (M : Nat)) ∧ wr = w' by rw [HM.out]; exact (arcs_any p g wr (HNets.out _ HA.out.1).1).mono fun _ _ h => ⟨h.1, h.2.symm⟩)
  by_cases hal : a < M
  case pos =>
    have halI : (a : Int) < (M : Int) := by omega
    have ha0 : (0 : Int) ≤ (a : Int) := by omega
    have c6 : wr.cell? ⟨B6, a, none⟩ = some (.int .i64 1) := by rw [HA.out.2.1.cell a (by rw [List.length_replicate]; exact hal), List.getElem_replicate]
    have c7 : wr.cell? ⟨B7, a, none⟩ = some (.int .i64 1) := by rw [HA.out.2.2.cell a (by rw [List.length_replicate]; exact hal), List.getElem_replicate]
    go_wp2_with (refine hArcs.out.mono ?_; rintro e _ ⟨rfl, rfl⟩)
    go_roundw
    case rel => exact ⟨a + 1, by omega, by go_num, HA⟩
    case measure => simp [intOf]; omega
  obtain rfl : M = a := by omega
  have HBw := Lib.hid HA.out.1
  clear HA
  go_wp2_with (refine hArcs.out.mono ?_; rintro e _ ⟨rfl, rfl⟩)
  clear hArcs
  have hok2 := Raw.turned_okB HOk.out
  refine (turnedN_any q g.turned wr (HNets.out _ HBw.out).2 hok2.few hok2).mono ?_
  clear hok2
  rintro e w5 ⟨q2, rfl, hq2, hb5⟩
  rw [Raw.turned_twice] at hq2
  have HB5 := Lib.hid (HBw.out.next' hb5)
  have Hr := Lib.hid (raw_any q2 g w5 hq2.at HOk.out.few)
  clear hq2 hb5 HBw
  go_wp2_with fail
  refine Hr.out.mono ?_
  rintro e w6 ⟨v6, rfl, hr6, hb6⟩
  have HB6 := Lib.hid (HB5.out.next' hb6)
  have HR6 := Lib.hid hr6
  obtain ⟨_, _, _, rfl, _⟩ := id hr6.raw
  clear hr6 hb6 HB5 Hr
  go_wp2_with fail
  refine (raw_any p g w6 (HNets.out _ HB6.out).1 HOk.out.few).mono ?_
  rintro e w7 ⟨v7, rfl, hr7, hb7⟩
  have HB7 := Lib.hid (HB6.out.next' hb7)
  have hs := refSame7_any _ v7 g g w7 (HR6.out.raw.below hb7) hr7.raw
  rw [(sameB_iff g g).2 rfl] at hs
  have HS := Lib.hid hs
  obtain ⟨_, _, _, rfl, _⟩ := id hr7.raw
  clear hr7 hb7 HB6 HR6 hs
  go_wp2_with fail
  refine HS.out.mono ?_
  rintro e w8 ⟨rfl, hb8⟩
  have HB8 := Lib.hid (HB4.out.next' (HB7.out.next' hb8))
  clear hb8 HS
  go_wp2_with fail
  go_ret
  exact ⟨rfl, HB8.out⟩
theorem netOnce_rd (v : Value) (W : World) (R : Rd Tryd.prog W 56 [v]) (hg : HG W) : Calls Tryd.prog 7 #[v] W fun e w' => e = .returned (.bool true) ∧ Below W.heap.size W w' := by
  obtain ⟨l, h, _⟩ := Rd.ints Tryd.underlying56 Tryd.underlying5 (by kernel_rfl) R
  exact netOnce_any v l W h hg
end Go.Proofs.YtnkcmlngoeofgaaDoor
/-
  WHAT EVERY LAW's PROOF OF THIS SEAT SHARES: from 'it returns true, and below the heap's size nothing has turned' to the row's own post; no argument need be shut again.
-/
namespace Go.Proofs.YtnkcmlngoeofgaaDoor
open Go.ChangeShapes Go.WideShapes Go.ChangeAt Go.RowKit

theorem own : ownKnob Tryd.prog.godebug = none := by kernel_rfl
theorem laidOut : laidOutB Tryd.prog = true := by kernel_rfl

theorem okWide_agg {P : Program} {w : World} {r : Reach} {base : Nat} {t : TypeId} {v : Value} (ht : (∃ fs, P.underlying t = some (.struct fs)) ∨ (∃ n e, P.underlying t = some (.array n e))) (h : Value.okWide P w r base t v) : ∃ cs, v = .agg cs ∧ cs.size = P.cellsOf t := by
  rcases ht with ⟨fs, ht⟩ | ⟨n, e, ht⟩
  · exact okWide_struct ht h
  · simp only [Value.okWide, ht] at h
    obtain ⟨cs, h1, h2, _⟩ := h
    exact ⟨cs, h1, h2⟩

theorem trodAll_below {H : Type} {enc : TypeId × Value → H} {W W' : World} (hb : Below W.heap.size W W') :
    ∀ (ts : List TypeId) (vs : List Value) (ds : List (DataW H)) (ps : List MemPlace), (∀ t ∈ ts, Tryd.prog.readableRec t = true ∧ t < Tryd.prog.types.size) →
      (∀ x ∈ ps, x.block < W.heap.size) → DataW.TrodAll enc Tryd.prog W 0 (fun _ => true) true ts vs ds ps → DataW.TrodAll enc Tryd.prog W' 0 (fun b => decide (b < W.heap.size)) true ts vs ds ps := by
  intro ts
  induction ts with
  | nil => intro vs ds ps _ _ h; cases vs <;> cases ds <;> exact h
  | cons t ts ih =>
    intro vs ds ps hr hlt h
    obtain ⟨v, vs', d, ds', p, q, rfl, rfl, rfl, h1, h2⟩ := trodAll_cons h
    exact trodAll_cons_mk (Below.trod laidOut (hr t (by simp)).1 (hr t (by simp)).2 h1 hb (fun x hx => hlt x (by simp [hx])))
      (ih vs' ds' q (fun u hu => hr u (by simp [hu])) (fun x hx => hlt x (by simp [hx])) h2)

/-- THE POST OF A LAW's ROW -/
theorem law_post {H : Type} {enc : TypeId × Value → H} {f : Func} {s : ChangeSpec} {W W' : World} {args : Array Value} {ds gs : List (DataW H)} {before : List MemPlace} (tb : TypeId)
    (hbool : Tryd.prog.underlying tb = some .bool) (hres : f.resultTypes = #[tb]) (hr0 : (f.params.toList.all fun t => Tryd.prog.readableRec t && decide (t < Tryd.prog.types.size)) = true)
    (hv : s.vars = []) (hfn : (s.fn H (ds ++ gs)).results = [.lit (.bool true)]) (hfa : (s.fn H (ds ++ gs)).args = ds) (hfv : (s.fn H (ds ++ gs)).vars = [])
    (hW : DataW.Whole enc Tryd.prog f.params.toList s.vars false W args.toList ds gs before) (hb : Below W.heap.size W W') :
    s.post enc Tryd.prog f false true false false W args (.bool true) W' := by
  have hr : ∀ t ∈ f.params.toList, Tryd.prog.readableRec t = true ∧ t < Tryd.prog.types.size := fun t ht => by
    have := List.all_eq_true.1 hr0 t ht; simpa using this
  have hlt := hW.lt
  have hW' := hW
  obtain ⟨p, q, hA, hV, rfl, hz, hn⟩ := hW'
  rw [hv] at hV
  obtain ⟨rfl, rfl⟩ := trodVars_none hV
  refine ⟨ds, [], p ++ [], [], p, [], hW, ?_, ?_, ?_, hb.frame _, fun h => by cases h⟩
  · rw [hres, hfn]; exact trodAll_cons_mk (shut_bool hbool _) trodAll_mk0
  · rw [hfa]; exact trodAll_below hb _ _ _ _ hr (fun x hx => hlt x (by simpa using hx)) hA
  · rw [hfv, hv]; rfl
end Go.Proofs.YtnkcmlngoeofgaaDoor
