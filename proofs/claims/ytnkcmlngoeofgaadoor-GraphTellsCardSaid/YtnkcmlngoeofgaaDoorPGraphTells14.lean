/- Texts of the law GraphTells, merged: GrWorks, GrRefSame, GrRefTurned, HeldC. -/
import Derived.Test.YtnkcmlngoeofgaaDoorPGraphTells05
import Derived.Test.YtnkcmlngoeofgaaDoorPGraphTells10
import Derived.Test.YtnkcmlngoeofgaaDoorPGraphTells01
/- the graph laws' works. -/
namespace Go.Proofs.YtnkcmlngoeofgaaDoor
open Go.RowKit
theorem slX_new {w : World} {g n : Nat} {cs : Array Value} {t : TypeId} {fr : Nat × Nat} {L : List Int} (hb : Blk w g cs t fr) (hcs : cs = (L.flatMap inC).toArray) (hn : L.length = n) (hl : L.length ≤ 1000) : SlX w (.slice (some ⟨g, 0, none⟩) n n) L := by
  subst hn
  refine ⟨_, _, rfl, Nat.le_refl _, by unfold maxLen; omega, fun i hi => ⟨g, 0, cs, t, fr, rfl, hb, ?_⟩⟩
  have e := flatN_get 1 inC inC_len L i 0 (by omega)
  rw [Nat.mul_one, Nat.add_zero, List.getElem?_eq_getElem hi] at e
  rw [hcs, Nat.zero_add, List.getElem?_toArray, e]; rfl
theorem slA_new {w : World} {g n : Nat} {cs : Array Value} {t : TypeId} {fr : Nat × Nat} {L : List Ar} (hb : Blk w g cs t fr) (hcs : cs = (L.flatMap arC).toArray) (hn : L.length = n) (hl : L.length ≤ 1000) : SlA w (.slice (some ⟨g, 0, none⟩) n n) L := by
  subst hn
  have hc : ∀ i (hi : i < L.length) d, d < 3 → cs[0 + i * 3 + d]? = (arC L[i])[d]? := fun i hi d hd => by
    rw [hcs, Nat.zero_add, List.getElem?_toArray, flatN_get 3 arC arC_len L i d hd, List.getElem?_eq_getElem hi]; rfl
  exact ⟨_, _, rfl, Nat.le_refl _, by unfold maxLen; omega, fun i hi => ⟨g, 0, cs, t, fr, rfl, hb, hc i hi 0 (by omega), hc i hi 1 (by omega), hc i hi 2 (by omega)⟩⟩
theorem slX_nil (w : World) : SlX w (.slice none 0 0) [] := ⟨none, 0, rfl, Nat.le_refl _, Nat.zero_le _, fun i hi => by cases hi⟩
theorem slA_nil (w : World) : SlA w (.slice none 0 0) [] := ⟨none, 0, rfl, Nat.le_refl _, Nat.zero_le _, fun i hi => by cases hi⟩
set_option maxHeartbeats 4000000 in
theorem works_any (w : World) (hg : HG w) : Calls Tryd.prog 12 #[] w fun e w' => e = .returned (.bool true) ∧ Below w.heap.size w w' := by
  obtain ⟨w3, hw3⟩ : ∃ w3, w3 = ((w.alloc (.cells #[.int .i64 0, .int .i64 0] 2)).alloc (.cells #[.int .i64 0] 2)).alloc (.cells #[.int .i64 0, .int .i64 1, .int .i64 5] 54) := ⟨_, rfl⟩
  have B1 : Blk w3 w.heap.size #[.int .i64 0, .int .i64 0] 2 (0, 0) := by rw [hw3]; exact ((Blk.new _ _ _ _).alloc _).alloc _
  have B2 : Blk w3 (w.heap.size + 1) #[.int .i64 0] 2 (0, 0) := by
    rw [hw3]
    have h := Blk.new (w.alloc (.cells #[.int .i64 0, .int .i64 0] 2)) #[.int .i64 0] 2 (0, 0)
    rw [World.size_alloc] at h
    exact h.alloc _
  have B3 : Blk w3 (w.heap.size + 1 + 1) #[.int .i64 0, .int .i64 1, .int .i64 5] 54 (0, 0) := by
    rw [hw3]
    have h := Blk.new ((w.alloc (.cells #[.int .i64 0, .int .i64 0] 2)).alloc (.cells #[.int .i64 0] 2)) #[.int .i64 0, .int .i64 1, .int .i64 5] 54 (0, 0)
    rw [World.size_alloc, World.size_alloc] at h
    exact h
  have hb3 : Below w.heap.size w w3 := by rw [hw3]; exact (((Below.refl _ _).alloc (Nat.le_refl _) _).alloc (by simp) _).alloc (by simp; omega) _
  have S2 : SlX w3 (.slice (some ⟨w.heap.size, 0, none⟩) 2 2) [0, 0] := slX_new B1 rfl rfl (by decide)
  have S1 : SlX w3 (.slice (some ⟨w.heap.size + 1, 0, none⟩) 1 1) [0] := slX_new B2 rfl rfl (by decide)
  have S3 : SlA w3 (.slice (some ⟨w.heap.size + 1 + 1, 0, none⟩) 1 1) [(0, 1, 5)] := slA_new B3 rfl rfl (by decide)
  have C1 := Lib.hid (check_raw _ ⟨2, [0, 0], [0, 0], [(0, 1, 5)]⟩ w3 ⟨_, _, _, rfl, S2, S2, S3⟩)
  have H2 := Lib.hid S2; have H1 := Lib.hid S1; have HW3 := Lib.hid hw3; have HB3 := Lib.hid hb3; have HG0 := Lib.hid hg
  clear S1 S2 S3 B1 B2 B3 hw3 hb3 hg
  go_enter Tryd.func12, Tryd.ntmps12
  go_wp2_with fail
  rw [← HW3.out]
  refine C1.out.mono ?_
  rintro e w4 ⟨u, rfl, hi, hb4⟩
  rcases hi.form with ⟨rfl, _⟩ | ⟨_, h⟩
  case inr => exact (h (by decide)).elim
  have HB4 := Lib.hid (HB3.out.next' hb4)
  have HS2 := Lib.hid (H2.out.keep (KpC.of_below hb4)); have HS1 := Lib.hid (H1.out.keep (KpC.of_below hb4))
  have C2 := Lib.hid (fails_any _ ⟨0, [], [], []⟩ w4 5 0 0 0 (HG0.out.later HB4.out) ⟨_, _, _, rfl, slX_nil _, slX_nil _, slA_nil _⟩ (by decide))
  clear hi hb4 H1 H2
  go_wp2_with fail
  refine C2.out.mono ?_
  rintro e w5 ⟨rfl, hb5⟩
  have HB5 := Lib.hid (HB4.out.next' hb5)
  have HT2 := Lib.hid (HS2.out.keep (KpC.of_below hb5)); have HT1 := Lib.hid (HS1.out.keep (KpC.of_below hb5))
  have C3 := Lib.hid (fails_any _ ⟨2, [0], [0, 0], []⟩ w5 6 1 0 0 (HG0.out.later HB5.out) ⟨_, _, _, rfl, HT1.out, HT2.out, slA_nil _⟩ (by decide))
  clear hb5 HS1 HS2 C1 C2
  go_wp2_with fail
  refine C3.out.mono ?_
  rintro e w6 ⟨rfl, hb6⟩
  obtain ⟨w7, hw7⟩ : ∃ w7, w7 = w6.alloc (.cells #[.int .i64 2147483648] 2) := ⟨_, rfl⟩
  have hb7 : Below w6.heap.size w6 w7 := by rw [hw7]; exact (Below.refl _ _).alloc (Nat.le_refl _) _
  have B7 : Blk w7 w6.heap.size #[.int .i64 2147483648] 2 (0, 0) := by rw [hw7]; exact Blk.new _ _ _ _
  have HB7 := Lib.hid ((HB5.out.next' hb6).next' hb7)
  have HU1 := Lib.hid ((HT1.out.keep (KpC.of_below hb6)).keep (KpC.of_below hb7))
  have C4 := Lib.hid (fails_any _ ⟨1, [0], [2147483648], []⟩ w7 7 2 0 1 (HG0.out.later HB7.out) ⟨_, _, _, rfl, HU1.out, slX_new (L := [2147483648]) B7 rfl rfl (by decide), slA_nil _⟩ (by decide))
  have HW7 := Lib.hid hw7
  clear hb6 hb7 hw7 B7 HT1 HT2 C3
  go_wp2_with fail
  rw [← HW7.out]
  refine C4.out.mono ?_
  rintro e w8 ⟨rfl, hb8⟩
  obtain ⟨w9, hw9⟩ : ∃ w9, w9 = w8.alloc (.cells #[.int .i64 0, .int .i64 0, .int .i64 1, .int .i64 0, .int .i64 1, .int .i64 (-1)] 54) := ⟨_, rfl⟩
  have hb9 : Below w8.heap.size w8 w9 := by rw [hw9]; exact (Below.refl _ _).alloc (Nat.le_refl _) _
  have B9 : Blk w9 w8.heap.size #[.int .i64 0, .int .i64 0, .int .i64 1, .int .i64 0, .int .i64 1, .int .i64 (-1)] 54 (0, 0) := by rw [hw9]; exact Blk.new _ _ _ _
  have HB9 := Lib.hid ((HB7.out.next' hb8).next' hb9)
  have HV1 := Lib.hid ((HU1.out.keep (KpC.of_below hb8)).keep (KpC.of_below hb9))
  have C5 := Lib.hid (fails_any _ ⟨1, [0], [0], [(0, 0, 1), (0, 1, -1)]⟩ w9 9 4 1 1 (HG0.out.later HB9.out) ⟨_, _, _, rfl, HV1.out, HV1.out, slA_new (L := [(0, 0, 1), (0, 1, -1)]) B9 rfl rfl (by decide)⟩ (by decide))
  have HW9 := Lib.hid hw9
  clear hb8 hb9 hw9 B9 HU1 C4
  go_wp2_with fail
  rw [← HW9.out]
  refine C5.out.mono ?_
  rintro e w10 ⟨rfl, hb10⟩
  have HB10 := Lib.hid (HB9.out.next' hb10)
  clear hb10 C5
  go_wp2_with fail
  go_ret
  exact ⟨rfl, HB10.out⟩
end Go.Proofs.YtnkcmlngoeofgaaDoor
/- the reference's Same. -/
namespace Go.Proofs.YtnkcmlngoeofgaaDoor
open Go.RowKit
set_option maxHeartbeats 4000000 in
theorem refSame_any (va vb : Value) (a b : Raw) (w : World) (ha : RawV w va a) (hb : RawV w vb b) : Calls Tryd.prog 23 #[va, vb] w fun e w' => e = .returned (.bool (sameB a b)) ∧ Below w.heap.size w w' := by
  obtain ⟨ax, ay, aa, rfl, hax, hay, haa⟩ := ha
  obtain ⟨bx, by_, ba, rfl, hbx, hby, hba⟩ := hb
  have fx := hax.form; have fy := hay.form; have fa := id haa
  have gx := hbx.form; have gy := hby.form; have ga := id hba
  have hb0 := ((Below.refl w.heap.size w).alloc (Nat.le_refl _) (.cells #[.int .i64 a.nodes, ax, ay, aa] 25)).alloc (by simp) (.cells #[.int .i64 b.nodes, bx, by_, ba] 25)
  have k1 := (Blk.new w #[.int .i64 a.nodes, ax, ay, aa] 25 (0, 0)).alloc (.cells #[.int .i64 b.nodes, bx, by_, ba] 25)
  have k2 : Blk ((w.alloc (.cells #[.int .i64 a.nodes, ax, ay, aa] 25)).alloc (.cells #[.int .i64 b.nodes, bx, by_, ba] 25)) (w.heap.size + 1) #[.int .i64 b.nodes, bx, by_, ba] 25 (0, 0) := by
    have h := Blk.new (w.alloc (.cells #[.int .i64 a.nodes, ax, ay, aa] 25)) #[.int .i64 b.nodes, bx, by_, ba] 25 (0, 0)
    rwa [World.size_alloc] at h
  have CX := fun u hu => numbers_any _ _ _ _ u (hax.keep (KpC.of_below (W' := u) hu)) (hbx.keep (KpC.of_below hu))
  have CY := fun u hu => numbers_any _ _ _ _ u (hay.keep (KpC.of_below (W' := u) hu)) (hby.keep (KpC.of_below hu))
  have CA := fun u hu => And.intro (haa.keep (KpC.of_below (W' := u) hu)) (hba.keep (KpC.of_below (W' := u) hu))
  have HCX := Lib.hid CX; have HCY := Lib.hid CY; have HCA := Lib.hid CA
  have HB := Lib.hid hb0; have HK1 := Lib.hid k1; have HK2 := Lib.hid k2
  clear hax hay haa hbx hby hba hb0 k1 k2 CX CY CA
  obtain ⟨_, _, _, rfl⟩ := fx
  obtain ⟨_, _, _, rfl⟩ := fy
  obtain ⟨pa, ca, rfl, hca, hma, _⟩ := fa
  obtain ⟨_, _, _, rfl⟩ := gx
  obtain ⟨_, _, _, rfl⟩ := gy
  obtain ⟨pb, cb, rfl, hcb, hmb, _⟩ := ga
  unfold maxLen at hma hmb
  by_cases h0 : a.nodes = b.nodes
  · have q0 : (a.nodes != b.nodes) = false := by simpa using h0
    have H0 := Lib.hid h0
    clear h0
    go_enter Tryd.func23, Tryd.ntmps23
    go_wp2_with fail
    refine (HCX.out _ HB.out).mono ?_
    rintro e w1 ⟨rfl, hb1⟩
    have e1 := HK1.out.below hb1 HK1.out.lt
    have e2 := HK2.out.below hb1 HK2.out.lt
    have a2 := e1.cell 2; have a3 := e1.cell 3; have b2 := e2.cell 2; have b3 := e2.cell 3
    simp only [List.getElem?_toArray, List.getElem?_cons_succ, List.getElem?_cons_zero] at a2 a3 b2 b3
    have HE1 := Lib.hid e1; have HE2 := Lib.hid e2; have HB1 := Lib.hid (HB.out.next' hb1)
    clear e1 e2 hb1
    by_cases h1 : a.X = b.X
    · rw [decide_eq_true h1]
      have H1 := Lib.hid h1
      clear h1
      go_wp2_with fail
      refine (HCY.out _ HB1.out).mono ?_
      rintro e w2 ⟨rfl, hb2⟩
      have e1 := HE1.out.below hb2 HE1.out.lt
      have e2 := HE2.out.below hb2 HE2.out.lt
      have a3 := e1.cell 3; have b3 := e2.cell 3
      simp only [List.getElem?_toArray, List.getElem?_cons_succ, List.getElem?_cons_zero] at a3 b3
      have HB2 := Lib.hid (HB1.out.next' hb2)
      have hb2' := hb2
      clear e1 e2 hb2
      by_cases h2 : a.Y = b.Y
      · rw [decide_eq_true h2]
        have H2 := Lib.hid h2
        clear h2
        have HE1' := Lib.hid (HE1.out.below hb2' HE1.out.lt); have HE2' := Lib.hid (HE2.out.below hb2' HE2.out.lt)
        clear hb2'
        by_cases h3 : a.arcs.length = b.arcs.length
        · have l1 : ((a.arcs.length : Int) != (b.arcs.length : Int)) = false := by simp [h3]
          have HL := Lib.hid h3
          have hl3 : ∀ k, k < a.arcs.length → k < b.arcs.length := fun k h => by omega
          have HL3 := Lib.hid hl3
          clear h3 hl3
          go_wp2_with fail
          go_loopw [5] (fun i wr => ∃ (k : Nat), k ≤ a.arcs.length ∧ i = .int .i64 k ∧ Hid (a.arcs.take k = b.arcs.take k) ∧ Hid (Below w2.heap.size w2 wr)) (fun i _ => a.arcs.length - (intOf i).toNat)
          case atStart => exact ⟨0, Nat.zero_le _, rfl, Lib.hid rfl, Lib.hid (Below.refl _ _)⟩
          case round =>
            obtain ⟨k, hk, rfl, hpre, hbel⟩ := hrel
            have e1 := HE1'.out.below hbel.out HE1'.out.lt
            have e2 := HE2'.out.below hbel.out HE2'.out.lt
            have a3 := e1.cell 3; have b3 := e2.cell 3
            simp only [List.getElem?_toArray, List.getElem?_cons_succ, List.getElem?_cons_zero] at a3 b3
            by_cases hlt : k < a.arcs.length
            · have hw := HB2.out.next' hbel.out
              obtain ⟨ba, oa, rfl, da0, da1, da2⟩ := (HCA.out wr hw).1.at k hlt
              obtain ⟨bb, ob, rfl, db0, db1, db2⟩ := (HCA.out wr hw).2.at k (HL3.out k hlt)
              have i1 : (0 : Int) ≤ (k : Int) := by omega
              have i2 : (k : Int) < (a.arcs.length : Int) := by omega
              have i3 : (k : Int) < (b.arcs.length : Int) := by have := HL3.out k hlt; omega
              have hA1 : Hid (a.arcs.take (k + 1) = a.arcs.take k ++ [a.arcs[k]]) := Lib.hid (List.take_succ_eq_append_getElem hlt)
              have hB1 : Hid (b.arcs.take (k + 1) = b.arcs.take k ++ [b.arcs[k]'(HL3.out k hlt)]) := Lib.hid (List.take_succ_eq_append_getElem (HL3.out k hlt))
              obtain ⟨x, hx⟩ : ∃ x, x = a.arcs[k] := ⟨_, rfl⟩
              obtain ⟨y, hy⟩ : ∃ y, y = b.arcs[k]'(HL3.out k hlt) := ⟨_, rfl⟩
              rw [← hx] at da0 da1 da2; rw [← hy] at db0 db1 db2
              have HX := Lib.hid hx.symm; have HY := Lib.hid hy.symm
              clear hx hy hw e1 e2
              obtain ⟨x0, x1, x2⟩ := x
              obtain ⟨y0, y1, y2⟩ := y
              simp only at da0 da1 da2 db0 db1 db2
              obtain ⟨q, hq⟩ : ∃ q, q = !(x0 == y0 && (x1 == y1 && x2 == y2)) := ⟨_, rfl⟩
              have hq0 : ∀ w, (binOp .neq 54 (.agg #[.int .i64 x0, .int .i64 x1, .int .i64 x2]) (.agg #[.int .i64 y0, .int .i64 y1, .int .i64 y2])).run Tryd.prog w = .ok (.bool q) w := fun w => by rw [hq]; exact arc_neq x0 x1 x2 y0 y1 y2 w
              have HQ := Lib.hid hq
              clear hq
              go_wp2_with fail
              go_quiet (fail)
              generalize hwd : wr.drewN _ = wd at *
              have hqq : q = false ∨ q = true := by cases q <;> simp
              clear hq0
              rcases hqq with rfl | rfl
              · have hxy : Hid (((x0, x1, x2) : Ar) = (y0, y1, y2)) := Lib.hid (by have h := HQ.out; simp at h; simp [h])
                go_wp2_with fail
                go_roundw
                case rel =>
                  refine ⟨k + 1, by omega, by go_num, Lib.hid ?_, Lib.hid ?_⟩
                  · rw [hA1.out, hB1.out, hpre.out, HX.out, HY.out, hxy.out]
                  · rw [← hwd]; exact below_drewN hbel.out _
                case measure => simp [intOf]; omega
              · have hs : sameB a b = false := by
                  unfold sameB
                  rw [decide_eq_false]
                  rintro ⟨_, _, _, h⟩
                  exact arc_q HQ.out (by rw [← HX.out, ← HY.out]; simp [h])
                have HS := Lib.hid hs
                have HBw : Hid (Below w.heap.size w wd) := Lib.hid (by rw [← hwd]; exact below_drewN (HB2.out.next' hbel.out) _)
                clear hs hwd
                go_wp2_with fail
                go_ret
                exact ⟨by rw [HS.out]; first | done | rfl, HBw.out⟩
            · obtain rfl : k = a.arcs.length := by omega
              have hs : sameB a b = true := by
                have h := hpre.out
                rw [List.take_length, HL.out, List.take_length] at h
                unfold sameB
                simp [H0.out, H1.out, H2.out, h]
              have HS := Lib.hid hs
              clear hs e1 e2
              go_wp2_with fail
              go_ret
              exact ⟨by rw [HS.out]; first | done | rfl, HB2.out.next' hbel.out⟩
        · have l1 : ((a.arcs.length : Int) != (b.arcs.length : Int)) = true := by simp; omega
          have hs : sameB a b = false := by
            unfold sameB
            rw [decide_eq_false]
            rintro ⟨_, _, _, h⟩
            exact h3 (by rw [h])
          have HS := Lib.hid hs
          clear hs h3
          go_wp2_with fail
          go_ret
          exact ⟨by rw [HS.out]; first | done | rfl, HB2.out⟩
      · rw [decide_eq_false h2]
        have hs : sameB a b = false := by unfold sameB; simp [h2]
        have HS := Lib.hid hs
        clear h2 hs
        go_wp2_with fail
        go_ret
        exact ⟨by rw [HS.out]; first | done | rfl, HB2.out⟩
    · rw [decide_eq_false h1]
      have hs : sameB a b = false := by unfold sameB; simp [h1]
      have HS := Lib.hid hs
      clear h1 hs
      go_wp2_with fail
      go_ret
      exact ⟨by rw [HS.out]; first | done | rfl, HB1.out⟩
  · have q0 : (a.nodes != b.nodes) = true := by simpa using h0
    have hs : sameB a b = false := by unfold sameB; simp [h0]
    have HS := Lib.hid hs
    clear h0 hs
    go_enter Tryd.func23, Tryd.ntmps23
    go_wp2_with fail
    go_ret
    exact ⟨by rw [HS.out]; first | done | rfl, HB.out⟩
end Go.Proofs.YtnkcmlngoeofgaaDoor
/- the reference's Turned. -/
namespace Go.Proofs.YtnkcmlngoeofgaaDoor
open Go.RowKit
/-- one arc more on a row of ours -/
theorem push_arc (base : Nat) (v : Value) (L : List Ar) (x : Ar) (u : World) (B : Nat) (hown : u.ownsRow base 54 3 v L.length (L.flatMap arC)) (hB : Blk u B (arC x).toArray 54 (0, 0)) (hl : L.length ≤ 1000000) (hbase : base ≤ u.heap.size) :
    ∃ v' w', (Builtin.append_ #[23, 23] 23 #[v, .slice (some ⟨B, 0, none⟩) 1 1]).run Tryd.prog u = .ok v' w' ∧ w'.ownsRow base 54 3 v' (L ++ [x]).length ((L ++ [x]).flatMap arC) ∧ Below base u w' := by
  obtain ⟨i0, hi, hz0, hz1, hz2⟩ := info_parts infoA
  have hs : SlF 3 u (.slice (some ⟨B, 0, none⟩) 1 1) 1 (arC x) := ⟨arC_len x, fun u hu => by simp only [arC, List.mem_cons, List.not_mem_nil, or_false] at hu; rcases hu with rfl | rfl | rfl <;> rfl, _, 1, rfl, Nat.le_refl _, by unfold maxLen; omega, fun j u hu => ⟨B, 0, rfl, by rw [Nat.zero_add, hB.cell, List.getElem?_toArray]; exact hu⟩⟩
  obtain ⟨v', w', hr, ho, hg, _⟩ := run_append_row (P := Tryd.prog) base 23 23 54 i0 _ 3 24 Tryd.underlying23 hi hz0 hz1 hz2 rfl (by omega) v L.length _ hown _ 1 _ hs (by unfold maxLen; omega) (by omega) hbase
  refine ⟨v', w', hr, by rw [List.length_append, List.flatMap_append]; simpa using ho, ⟨hg.os, hg.tape, hg.output, hg.size, fun k hk => hg.block k (by omega) (fun e => ?_)⟩⟩
  have := (ownsRow_blk' hown e.symm).1
  omega
set_option maxRecDepth 100000 in
set_option maxHeartbeats 8000000 in
theorem refTurned6_any (v : Value) (r : Raw) (w : World) (h : RawV w v r) (hl : r.arcs.length ≤ 1000000) : Calls Tryd.prog 25 #[v] w fun e w' => ∃ v', e = .returned v' ∧ RawV w' v' r.turned ∧ Below w.heap.size w w' := by
  obtain ⟨vx, vy, va, rfl, hx, hy, ha⟩ := h
  have fx := hx.form; have fy := hy.form
  obtain ⟨za, zc, rfl, hzc, hzm, _⟩ := id ha
  unfold maxLen at hzm
  obtain ⟨xa, xn, xc, rfl⟩ := fx
  obtain ⟨ya, yn, yc, rfl⟩ := fy
  obtain ⟨B1, hB1⟩ : ∃ b, b = w.heap.size := ⟨_, rfl⟩
  obtain ⟨B2, hB2⟩ : ∃ b, b = w.heap.size + 1 := ⟨_, rfl⟩
  obtain ⟨w1, hw1⟩ : ∃ u, u = (w.alloc (.cells #[.int .i64 r.nodes, .slice xa xn xc, .slice ya yn yc, .slice za r.arcs.length zc] 25)).alloc (.cells #[.int .i64 0, .slice none 0 0, .slice none 0 0, .slice none 0 0] 25) := ⟨_, rfl⟩
  have hb1 : Below w.heap.size w w1 := by rw [hw1]; exact ((Below.refl _ _).alloc (Nat.le_refl _) _).alloc (by simp) _
  have K1 : Blk w1 B1 #[.int .i64 r.nodes, .slice xa xn xc, .slice ya yn yc, .slice za r.arcs.length zc] 25 (0, 0) := by rw [hw1, hB1]; exact (Blk.new _ _ _ _).alloc _
  have K2 : Blk w1 B2 #[.int .i64 0, .slice none 0 0, .slice none 0 0, .slice none 0 0] 25 (0, 0) := by
    rw [hw1, hB2]
    have h := Blk.new (w.alloc (.cells #[.int .i64 r.nodes, .slice xa xn xc, .slice ya yn yc, .slice za r.arcs.length zc] 25)) #[.int .i64 0, .slice none 0 0, .slice none 0 0, .slice none 0 0] 25 (0, 0)
    rwa [World.size_alloc] at h
  have hne : B2 ≠ B1 := by omega
  have hle1 : w.heap.size ≤ B1 := by omega
  have hle2 : w.heap.size ≤ B2 := by omega
  have HC := Lib.hid (And.intro hne (And.intro hle1 hle2))
  have HX := Lib.hid hx; have HY := Lib.hid hy; have HA := Lib.hid (ha.keep (KpC.of_below hb1))
  have HB := Lib.hid hb1; have HK1 := Lib.hid K1; have HK2 := Lib.hid K2; have HW1 := Lib.hid hw1; have HE1 := Lib.hid hB1; have HE2 := Lib.hid hB2
  clear hx hy ha hb1 K1 K2 hw1 hne hle1 hle2
  go_enter Tryd.func25, Tryd.ntmps25
  go_wp2_with fail
  rw [← HW1.out, ← HE2.out, ← HE1.out]
  clear hB1 hB2 HW1
  go_loopw [3, 4] (fun vv c wr => ∃ (k : Nat), k ≤ r.arcs.length ∧ c = .int .i64 k ∧ Hid (wr.ownsRow w1.heap.size 54 3 vv ((r.arcs.take k).map turnA).length (((r.arcs.take k).map turnA).flatMap arC)) ∧ Hid (Below w1.heap.size w1 wr)) (fun _ c _ => r.arcs.length - (intOf c).toNat)
  case atStart => exact ⟨0, Nat.zero_le _, rfl, Lib.hid (World.ownsRow_nil _ _ _ _), Lib.hid (Below.refl _ _)⟩
  case round =>
    obtain ⟨k, hk, rfl, hown, hbel⟩ := hrel
    have c3 := (HK1.out.below hbel.out HK1.out.lt).cell 3
    change wr.cell? ⟨B1, 3, none⟩ = some (.slice za r.arcs.length zc) at c3
    obtain ⟨la, ln, lc, hvf⟩ := hown.out.one'
    subst hvf
    by_cases hlt : k < r.arcs.length
    · obtain ⟨b, off, rfl, d0, d1, d2⟩ := (HA.out.keep (KpC.of_below hbel.out)).at k hlt
      have htk : (r.arcs.take (k + 1)).map turnA = (r.arcs.take k).map turnA ++ [turnA r.arcs[k]] := by rw [List.take_succ_eq_append_getElem hlt, List.map_append]; rfl
      obtain ⟨x, hx⟩ : ∃ x, x = r.arcs[k] := ⟨_, rfl⟩
      rw [← hx] at d0 d1 d2 htk
      obtain ⟨x0, x1, x2⟩ := x
      simp only at d0 d1 d2
      have hkI : (k : Int) < (r.arcs.length : Int) := by omega
      have hk0 : (0 : Int) ≤ (k : Int) := by omega
      obtain ⟨wa, hwa⟩ : ∃ u, u = wr.drew.alloc (.cells #[.int .i64 x1, .int .i64 x0, .int .i64 x2] 54) := ⟨_, rfl⟩
      have hba : Below wr.heap.size wr wa := by rw [hwa]; exact ((Below.refl _ wr).drew).alloc (Nat.le_refl _) _
      have kA : Blk wa wr.heap.size (arC (turnA (x0, x1, x2))).toArray 54 (0, 0) := by rw [hwa]; exact Blk.new wr.drew _ _ _
      obtain ⟨v', w', hr, ho, hbw⟩ := push_arc w1.heap.size _ _ (turnA (x0, x1, x2)) wa wr.heap.size (ownsRow_below hown.out hba) kA (by rw [List.length_map, List.length_take]; omega) (Nat.le_trans hbel.out.size hba.size)
      obtain ⟨ma, mn, mc, rfl⟩ := ho.one'
      rw [← htk] at ho
      have hbz : Below w1.heap.size w1 w' := (hbel.out.next' hba).trans hbw
      have e3 : wa.cell? ⟨B1, 3, none⟩ = some (.slice (some ⟨b, off, none⟩) r.arcs.length zc) := cell_later hba c3
      have ea := cell_later hba d0; have eb := cell_later hba d1; have ec := cell_later hba d2
      have z3 := (HK1.out.below hbz HK1.out.lt).cell 3
      change w'.cell? ⟨B1, 3, none⟩ = some (.slice (some ⟨b, off, none⟩) r.arcs.length zc) at z3
      have zz := (HA.out.keep (KpC.of_below hbz)).at k hlt
      obtain ⟨b', off', eq, y0, y1, y2⟩ := zz
      obtain ⟨rfl, rfl⟩ : b = b' ∧ off = off' := by simpa using eq
      rw [← hx] at y0 y1 y2
      dsimp only at y0 y1 y2
      have hS1 : (wa.cell? ⟨B1, 3, none⟩ = some (.slice (some ⟨b, off, none⟩) r.arcs.length zc) ∧ wa.cell? ⟨b, off + k * 3, none⟩ = some (.int .i64 x0) ∧ wa.cell? ⟨b, off + k * 3 + 1, none⟩ = some (.int .i64 x1) ∧ wa.cell? ⟨b, off + k * 3 + 2, none⟩ = some (.int .i64 x2)) := ⟨e3, ea, eb, ec⟩
      have hS2 : (w'.cell? ⟨B1, 3, none⟩ = some (.slice (some ⟨b, off, none⟩) r.arcs.length zc) ∧ w'.cell? ⟨b, off + k * 3, none⟩ = some (.int .i64 x0) ∧ w'.cell? ⟨b, off + k * 3 + 1, none⟩ = some (.int .i64 x1) ∧ w'.cell? ⟨b, off + k * 3 + 2, none⟩ = some (.int .i64 x2)) := ⟨z3, y0, y1, y2⟩
      have hS0' : (wr.drew.cell? ⟨B1, 3, none⟩ = some (.slice (some ⟨b, off, none⟩) r.arcs.length zc) ∧ wr.drew.cell? ⟨b, off + k * 3, none⟩ = some (.int .i64 x0) ∧ wr.drew.cell? ⟨b, off + k * 3 + 1, none⟩ = some (.int .i64 x1) ∧ wr.drew.cell? ⟨b, off + k * 3 + 2, none⟩ = some (.int .i64 x2)) := ⟨c3, d0, d1, d2⟩
      have HR := Lib.hid hr; have HO := Lib.hid ho; have HBz := Lib.hid hbz; have HWa := Lib.hid hwa
      have H1 := Lib.hid hS1; have H2 := Lib.hid hS2; have H0 := Lib.hid hS0'
      clear hx htk hwa hba kA hr ho hbw hbz e3 ea eb ec z3 y0 y1 y2 eq hS1 hS2 hS0' hown hbel d0 d1 d2
      go_wp2_with fail
      have hS0 := H0.out
      refine wp_region_heldD (fun w' => (w'.cell? ⟨B1, 3, none⟩ = some (.slice (some ⟨b, off, none⟩) r.arcs.length zc) ∧ w'.cell? ⟨b, off + k * 3, none⟩ = some (.int .i64 x0) ∧ w'.cell? ⟨b, off + k * 3 + 1, none⟩ = some (.int .i64 x1) ∧ w'.cell? ⟨b, off + k * 3 + 2, none⟩ = some (.int .i64 x2))) 22 rfl ?_
      change heldD _ _ _ _ _ _ _ 23 _ _ wr.drew
      refine heldD_takeF (i := 0) (v := .slice la ln lc) rfl rfl rfl (by kernel_rfl) (by kernel_rfl) (by kernel_rfl) (by kernel_rfl) (fun _ _ _ h => h) (by rfl) (fun w => ⟨by rfl, by go_simp⟩) (fun _ => hS0) ?_
      simp only [List.setIfInBounds_toArray, List.set_cons_zero, List.set_cons_succ]
      refine heldD_takeF (i := 1) (v := .pointer (some ⟨B1, 3, none⟩)) rfl rfl rfl (by kernel_rfl) (by kernel_rfl) (by kernel_rfl) (by kernel_rfl) (fun _ _ _ h => h) (by rfl) (fun w => ⟨by rfl, by go_simp⟩) (fun _ => hS0) ?_
      simp only [List.setIfInBounds_toArray, List.set_cons_zero, List.set_cons_succ]
      refine heldD_take (i := 2) (v := .slice (some ⟨b, off, none⟩) r.arcs.length zc) rfl rfl rfl (by kernel_rfl) (by kernel_rfl) (by kernel_rfl) (by kernel_rfl) (by kernel_rfl) (by kernel_rfl) (fun _ _ _ h => h) (by rfl) (fun w hS => ⟨by rfl, by obtain ⟨hS1, hS2, hS3, hS4⟩ := hS; go_simp⟩) hS0 ?_
      simp only [List.setIfInBounds_toArray, List.set_cons_zero, List.set_cons_succ]
      refine heldD_takeF (i := 3) (v := .int .i64 (k : Nat)) rfl rfl rfl (by kernel_rfl) (by kernel_rfl) (by kernel_rfl) (by kernel_rfl) (fun _ _ _ h => h) (by rfl) (fun w => ⟨by rfl, by go_simp⟩) (fun _ => hS0) ?_
      simp only [List.setIfInBounds_toArray, List.set_cons_zero, List.set_cons_succ]
      refine heldD_takeF (i := 4) (v := .pointer (some ⟨b, off + k * 3, none⟩)) rfl rfl rfl (by kernel_rfl) (by kernel_rfl) (by kernel_rfl) (by kernel_rfl) (fun _ _ _ h => h) (by rfl) (fun w => ⟨by rfl, by go_simp⟩) (fun _ => hS0) ?_
      simp only [List.setIfInBounds_toArray, List.set_cons_zero, List.set_cons_succ]
      refine heldD_takeF (i := 5) (v := .pointer (some ⟨b, off + k * 3 + 1, none⟩)) rfl rfl rfl (by kernel_rfl) (by kernel_rfl) (by kernel_rfl) (by kernel_rfl) (fun _ _ _ h => h) (by rfl) (fun w => ⟨by rfl, by go_simp⟩) (fun _ => hS0) ?_
      simp only [List.setIfInBounds_toArray, List.set_cons_zero, List.set_cons_succ]
      refine heldD_take (i := 6) (v := .int .i64 x1) rfl rfl rfl (by kernel_rfl) (by kernel_rfl) (by kernel_rfl) (by kernel_rfl) (by kernel_rfl) (by kernel_rfl) (fun _ _ _ h => h) (by rfl) (fun w hS => ⟨by rfl, by obtain ⟨hS1, hS2, hS3, hS4⟩ := hS; go_simp⟩) hS0 ?_
      simp only [List.setIfInBounds_toArray, List.set_cons_zero, List.set_cons_succ]
      refine heldD_takeF (i := 7) (v := .pointer (some ⟨B1, 3, none⟩)) rfl rfl rfl (by kernel_rfl) (by kernel_rfl) (by kernel_rfl) (by kernel_rfl) (fun _ _ _ h => h) (by rfl) (fun w => ⟨by rfl, by go_simp⟩) (fun _ => hS0) ?_
      simp only [List.setIfInBounds_toArray, List.set_cons_zero, List.set_cons_succ]
      refine heldD_take (i := 8) (v := .slice (some ⟨b, off, none⟩) r.arcs.length zc) rfl rfl rfl (by kernel_rfl) (by kernel_rfl) (by kernel_rfl) (by kernel_rfl) (by kernel_rfl) (by kernel_rfl) (fun _ _ _ h => h) (by rfl) (fun w hS => ⟨by rfl, by obtain ⟨hS1, hS2, hS3, hS4⟩ := hS; go_simp⟩) hS0 ?_
      simp only [List.setIfInBounds_toArray, List.set_cons_zero, List.set_cons_succ]
      refine heldD_takeF (i := 9) (v := .int .i64 (k : Nat)) rfl rfl rfl (by kernel_rfl) (by kernel_rfl) (by kernel_rfl) (by kernel_rfl) (fun _ _ _ h => h) (by rfl) (fun w => ⟨by rfl, by go_simp⟩) (fun _ => hS0) ?_
      simp only [List.setIfInBounds_toArray, List.set_cons_zero, List.set_cons_succ]
      refine heldD_takeF (i := 10) (v := .pointer (some ⟨b, off + k * 3, none⟩)) rfl rfl rfl (by kernel_rfl) (by kernel_rfl) (by kernel_rfl) (by kernel_rfl) (fun _ _ _ h => h) (by rfl) (fun w => ⟨by rfl, by go_simp⟩) (fun _ => hS0) ?_
      simp only [List.setIfInBounds_toArray, List.set_cons_zero, List.set_cons_succ]
      refine heldD_takeF (i := 11) (v := .pointer (some ⟨b, off + k * 3, none⟩)) rfl rfl rfl (by kernel_rfl) (by kernel_rfl) (by kernel_rfl) (by kernel_rfl) (fun _ _ _ h => h) (by rfl) (fun w => ⟨by rfl, by go_simp⟩) (fun _ => hS0) ?_
      simp only [List.setIfInBounds_toArray, List.set_cons_zero, List.set_cons_succ]
      refine heldD_take (i := 12) (v := .int .i64 x0) rfl rfl rfl (by kernel_rfl) (by kernel_rfl) (by kernel_rfl) (by kernel_rfl) (by kernel_rfl) (by kernel_rfl) (fun _ _ _ h => h) (by rfl) (fun w hS => ⟨by rfl, by obtain ⟨hS1, hS2, hS3, hS4⟩ := hS; go_simp⟩) hS0 ?_
      simp only [List.setIfInBounds_toArray, List.set_cons_zero, List.set_cons_succ]
      refine heldD_takeF (i := 13) (v := .pointer (some ⟨B1, 3, none⟩)) rfl rfl rfl (by kernel_rfl) (by kernel_rfl) (by kernel_rfl) (by kernel_rfl) (fun _ _ _ h => h) (by rfl) (fun w => ⟨by rfl, by go_simp⟩) (fun _ => hS0) ?_
      simp only [List.setIfInBounds_toArray, List.set_cons_zero, List.set_cons_succ]
      refine heldD_take (i := 14) (v := .slice (some ⟨b, off, none⟩) r.arcs.length zc) rfl rfl rfl (by kernel_rfl) (by kernel_rfl) (by kernel_rfl) (by kernel_rfl) (by kernel_rfl) (by kernel_rfl) (fun _ _ _ h => h) (by rfl) (fun w hS => ⟨by rfl, by obtain ⟨hS1, hS2, hS3, hS4⟩ := hS; go_simp⟩) hS0 ?_
      simp only [List.setIfInBounds_toArray, List.set_cons_zero, List.set_cons_succ]
      refine heldD_takeF (i := 15) (v := .int .i64 (k : Nat)) rfl rfl rfl (by kernel_rfl) (by kernel_rfl) (by kernel_rfl) (by kernel_rfl) (fun _ _ _ h => h) (by rfl) (fun w => ⟨by rfl, by go_simp⟩) (fun _ => hS0) ?_
      simp only [List.setIfInBounds_toArray, List.set_cons_zero, List.set_cons_succ]
      refine heldD_takeF (i := 16) (v := .pointer (some ⟨b, off + k * 3, none⟩)) rfl rfl rfl (by kernel_rfl) (by kernel_rfl) (by kernel_rfl) (by kernel_rfl) (fun _ _ _ h => h) (by rfl) (fun w => ⟨by rfl, by go_simp⟩) (fun _ => hS0) ?_
      simp only [List.setIfInBounds_toArray, List.set_cons_zero, List.set_cons_succ]
      refine heldD_takeF (i := 17) (v := .pointer (some ⟨b, off + k * 3 + 2, none⟩)) rfl rfl rfl (by kernel_rfl) (by kernel_rfl) (by kernel_rfl) (by kernel_rfl) (fun _ _ _ h => h) (by rfl) (fun w => ⟨by rfl, by go_simp⟩) (fun _ => hS0) ?_
      simp only [List.setIfInBounds_toArray, List.set_cons_zero, List.set_cons_succ]
      refine heldD_take (i := 18) (v := .int .i64 x2) rfl rfl rfl (by kernel_rfl) (by kernel_rfl) (by kernel_rfl) (by kernel_rfl) (by kernel_rfl) (by kernel_rfl) (fun _ _ _ h => h) (by rfl) (fun w hS => ⟨by rfl, by obtain ⟨hS1, hS2, hS3, hS4⟩ := hS; go_simp⟩) hS0 ?_
      simp only [List.setIfInBounds_toArray, List.set_cons_zero, List.set_cons_succ]
      refine heldD_takeF (i := 19) (v := .agg #[.int .i64 x1, .int .i64 x0, .int .i64 x2]) rfl rfl rfl (by kernel_rfl) (by kernel_rfl) (by kernel_rfl) (by kernel_rfl) (fun _ _ _ h => h) (by rfl) (fun w => ⟨by rfl, by go_simp⟩) (fun _ => hS0) ?_
      simp only [List.setIfInBounds_toArray, List.set_cons_zero, List.set_cons_succ]
      refine heldD_one (i := 20) (by kernel_rfl) ?_
      refine wpOpIn_value (v := .slice (some ⟨wr.heap.size, 0, none⟩) 1 1) (w' := wa) rfl rfl rfl (by rfl) (by rfl) (by rw [HWa.out]; go_simp) ?_
      refine ⟨fun _ => H1.out, ?_⟩
      simp only [List.setIfInBounds_toArray, List.set_cons_zero, List.set_cons_succ]
      refine heldD_one (i := 21) (by kernel_rfl) ?_
      refine wpOpIn_append rfl rfl rfl (by rfl) _ _ _ _ rfl HR.out ?_
      refine ⟨fun _ => H2.out, ?_⟩
      simp only [List.setIfInBounds_toArray, List.set_cons_zero, List.set_cons_succ]
      refine heldD_one (i := 22) (by kernel_rfl) ?_
      refine wpOpIn_value (v := .slice ma mn mc) (w' := w') rfl rfl rfl (by rfl) (by rfl) (by go_simp) ?_
      refine ⟨fun h => (by cases h), ?_⟩
      simp only [List.setIfInBounds_toArray, List.set_cons_zero, List.set_cons_succ]
      refine heldD_done (by kernel_rfl) ?_ _
      clear hS0
      clear c3
      go_wp2_with fail
      go_roundw
      case rel => exact ⟨k + 1, by omega, by go_num, HO, HBz⟩
      case measure => simp [intOf]; omega
    · obtain rfl : k = r.arcs.length := by omega
      rw [List.take_length] at hown
      have hlm : (r.arcs.map turnA).length = r.arcs.length := List.length_map ..
      rw [hlm] at hown
      have k1 := HK1.out.below hbel.out HK1.out.lt
      have k2 := HK2.out.below hbel.out HK2.out.lt
      have f3 := k1.free 3 (Or.inr (Nat.zero_le _))
      have K1 := k1.set 3 (.slice la ln lc)
      have K2 := k2.setOther ⟨B1, 3, none⟩ (.slice la ln lc) HC.out.1
      have hb := (HB.out.next' hbel.out).setCell (p := ⟨B1, 3, none⟩) HC.out.2.1 (.slice la ln lc)
      have hl1 := HK1.out.lt; have hl2 := HK2.out.lt
      have ho6 : (wr.setCell ⟨B1, 3, none⟩ (.slice la ln lc)).ownsRow w1.heap.size 54 3 (.slice la ln lc) r.arcs.length ((r.arcs.map turnA).flatMap arC) := ownsRow_agree' hown.out fun c hc => heap_setCell_other _ _ _ _ (fun e : c = B1 => by have := (ownsRow_blk' hown.out hc).1; omega)
      have HK1' := Lib.hid K1; have HK2' := Lib.hid K2; have HB' := Lib.hid hb; have HO6 := Lib.hid ho6; have HL := Lib.hid (And.intro hl2 hlm)
      clear k1 k2 K1 K2 hb hown hbel hl1 hl2 ho6 hlm
      go_upto_region 7 with fail
      generalize wr.setCell ⟨B1, 3, none⟩ (.slice la ln lc) = w4 at *
      clear c3 f3
      have c0 := HK1'.out.cell 0; have c1 := HK1'.out.cell 1; have c2 := HK1'.out.cell 2; have c3 := HK1'.out.cell 3
      change w4.cell? ⟨B1, 0, none⟩ = some (.int .i64 r.nodes) at c0
      change w4.cell? ⟨B1, 1, none⟩ = some (.slice xa xn xc) at c1
      change w4.cell? ⟨B1, 2, none⟩ = some (.slice ya yn yc) at c2
      change w4.cell? ⟨B1, 3, none⟩ = some (.slice la ln lc) at c3
      have e0 := HK2'.out.cell 0; have e1 := HK2'.out.cell 1; have e2 := HK2'.out.cell 2; have e3 := HK2'.out.cell 3
      change w4.cell? ⟨B2, 0, none⟩ = some (.int .i64 0) at e0
      change w4.cell? ⟨B2, 1, none⟩ = some (.slice none 0 0) at e1
      change w4.cell? ⟨B2, 2, none⟩ = some (.slice none 0 0) at e2
      change w4.cell? ⟨B2, 3, none⟩ = some (.slice none 0 0) at e3
      have fr := fun i => HK2'.out.free i (Or.inr (Nat.zero_le _))
      have f0 := fr 0; have f1 := fr 1; have f2 := fr 2; have f3 := fr 3
      have bZ := (((HK2'.out.set 0 (.int .i64 r.nodes)).set 1 (.slice xa xn xc)).set 2 (.slice ya yn yc)).set 3 (.slice la ln lc)
      have hbz := (((HB'.out.setCell (p := ⟨B2, 0, none⟩) HC.out.2.2 (.int .i64 r.nodes)).setCell (p := ⟨B2, 1, none⟩) HC.out.2.2 (.slice xa xn xc)).setCell (p := ⟨B2, 2, none⟩) HC.out.2.2 (.slice ya yn yc)).setCell (p := ⟨B2, 3, none⟩) HC.out.2.2 (.slice la ln lc)
      have hz : SlA ((((w4.setCell ⟨B2, 0, none⟩ (.int .i64 r.nodes)).setCell ⟨B2, 1, none⟩ (.slice xa xn xc)).setCell ⟨B2, 2, none⟩ (.slice ya yn yc)).setCell ⟨B2, 3, none⟩ (.slice la ln lc)) (.slice la ln lc) (r.arcs.map turnA) := by
        refine slA_own HL.out.2 (ownsRow_agree' HO6.out fun c hc => ?_)
        have h1 := (ownsRow_blk' HO6.out hc).1
        have h2 := HL.out.1
        have h3 : c ≠ B2 := by omega
        rw [heap_setCell_other _ _ _ _ h3, heap_setCell_other _ _ _ _ h3, heap_setCell_other _ _ _ _ h3, heap_setCell_other _ _ _ _ h3]
      have HZ := Lib.hid bZ; have HBz := Lib.hid hbz; have HAz := Lib.hid hz
      clear bZ hbz hz fr HK1' HK2' HB' HO6
      go_wp2_with fail
      generalize (((w4.setCell ⟨B2, 0, none⟩ (.int .i64 r.nodes)).setCell ⟨B2, 1, none⟩ (.slice xa xn xc)).setCell ⟨B2, 2, none⟩ (.slice ya yn yc)).setCell ⟨B2, 3, none⟩ (.slice la ln lc) = wz at *
      have z0 := HZ.out.cell 0; have z1 := HZ.out.cell 1; have z2 := HZ.out.cell 2; have z3 := HZ.out.cell 3
      change wz.cell? ⟨B2, 0, none⟩ = some (.int .i64 r.nodes) at z0
      change wz.cell? ⟨B2, 1, none⟩ = some (.slice xa xn xc) at z1
      change wz.cell? ⟨B2, 2, none⟩ = some (.slice ya yn yc) at z2
      change wz.cell? ⟨B2, 3, none⟩ = some (.slice la ln lc) at z3
      have k := KpC.of_below HBz.out
      exact bodyPost_ret (v := .agg #[.int .i64 r.nodes, .slice xa xn xc, .slice ya yn yc, .slice la ln lc]) (by simp [results, Tryd.results25, go_sem, z0, z1, z2, z3]) rfl ⟨_, rfl, ⟨_, _, _, rfl, HX.out.keep k, HY.out.keep k, HAz.out⟩, HBz.out⟩
end Go.Proofs.YtnkcmlngoeofgaaDoor
/- A region that draws: reads that the first store does not wait for itself, but through others (C). A value made in a region of reads. -/
namespace Go.Proofs.YtnkcmlngoeofgaaDoor
section
variable {F : Fence} {n : Nat} {P : Program} {ops : Array Oper} {Q : Exit → Act → World → Prop} {S : World → Prop} {D : Nat}
theorem heldD_firstC {i : Nat} {oi : Oper} {v : Value} (C : List Nat) (hro : F.round = none) (hi : ops[i]? = some oi) (hsel : ∀ (j : Nat) (o : Oper) cs b, ops[j]? = some o → o.op ≠ .select cs b) (hQ : ∀ c a w, Q (.panic c) (a.put oi.dst v) w → Q (.panic c) a w)
    (hDC : D ∈ C) (hiC : i ∉ C) (hW : ∀ c ∈ C, ∀ oc, ops[c]? = some oc → ∃ e ∈ oc.after, Region.binds .any e = true ∧ (e.on = i ∨ e.on ∈ C)) :
    ∀ (fuel : Nat) (listed : Array Bool) (a : Act) (w : World), (∀ j oj, ops[j]? = some oj → j ≠ i → listed.getD j true = false → (∀ e ∈ oj.after, Region.binds .any e = true → e.on ≠ i) → oi.apart ops oj = true) →
      i ∈ Region.ready .any ops listed → ReadsIn P ops S oi v a → (∀ c ∈ C, listed.getD c true = false) → S w → heldD F n P ops Q S D fuel (listed.setIfInBounds i true) (a.put oi.dst v) w → heldD F n P ops Q S D (fuel + 1) listed a w := by
  intro fuel
  induction fuel with
  | zero =>
    intro listed a w _ hr hy _ hS H
    refine ⟨fun h => (by rw [h] at hr; cases hr), fun j hj => ?_⟩
    by_cases hji : j = i
    · subst hji; exact hy.op hro hi hS ⟨fun _ => hS, H⟩
    · have := ready_mono hj hji
      rw [H.1] at this; cases this
  | succ fuel ih =>
    intro listed a w hfree hr hy hC hS H
    refine ⟨fun h => (by rw [h] at hr; cases hr), fun j hj => ?_⟩
    by_cases hji : j = i
    · subst hji; exact hy.op hro hi hS ⟨fun _ => hS, H⟩
    obtain ⟨hjun, oj, hoj, hall⟩ := mem_ready.1 hj
    have hnot : ∀ e ∈ oj.after, Region.binds .any e = true → e.on ≠ i := fun e he hb heq => by
      have h1 := hall e he hb
      have h0 := (mem_ready.1 hr).1
      rw [heq] at h1
      rcases Nat.lt_or_ge i listed.size with h' | h'
      · simp [h'] at h0 h1; rw [h0] at h1; cases h1
      · simp [Array.getElem?_eq_none h'] at h1
    have hjC : j ∉ C := fun hc => by
      obtain ⟨e, he, hb, h | h⟩ := hW j hc oj hoj
      · exact hnot e he hb h
      · have h1 := hall e he hb
        have h0 := hC _ h
        rcases Nat.lt_or_ge e.on listed.size with h' | h'
        · simp [h'] at h0 h1; rw [h0] at h1; cases h1
        · simp [Array.getElem?_eq_none h'] at h1
    have hjD : j ≠ D := fun e => hjC (e ▸ hDC)
    have hDi : D ≠ i := fun e => hiC (e ▸ hDC)
    refine wpOpIn_mono (fun a' w' h3 => ?_)
      (swapIn hro hoj (hfree j oj hoj hji hjun hnot) (fun cs b => hsel i oi cs b hi) (fun cs b => hsel j oj cs b hoj) hQ hy (H.2 j (ready_mono hj hji)))
    have hS' : S w' := h3.2.1 (by rw [getD_set_ne true hjD, getD_set_ne true (Ne.symm hDi)]; exact hC D hDC)
    refine ⟨fun _ => hS', ih _ a' w' (fun k ok hk hki hun hno => hfree k ok hk hki ?_ hno) (ready_mono hr (Ne.symm hji)) h3.1 (fun c hc => by rw [getD_set_ne true (fun e : j = c => hjC (by rw [e]; exact hc))]; exact hC c hc) hS' ?_⟩
    · by_cases hjk : j = k
      · subst hjk; exact hjun
      · rwa [getD_set_ne true hjk] at hun
    · rw [Array.setIfInBounds_comm _ _ hji]; exact h3.2.2
/-- each of C waits for i, or for one of C -/
def waitsC (ops : Array Oper) (C : List Nat) (i : Nat) : Bool := C.all fun c => match ops[c]? with
  | some o => o.after.any fun e => Region.binds .any e && (e.on == i || C.contains e.on)
  | none => true
theorem heldD_takeC {i d : Nat} {oi : Oper} {v : Value} {fuel : Nat} {listed : Array Bool} {tmps : Array Value} {ds : List Deferred} {w : World} (C : List Nat) (hro : F.round = none) (hi : ops[i]? = some oi) (hd : oi.dst = some d) (hs : Region.noSelect ops = true) (hf : Region.free .any ops listed i = true)
    (hr : (Region.ready .any ops listed).contains i = true) (hDC : (C.contains D && !C.contains i) = true) (hW : waitsC ops C i = true) (hC : C.all (fun c => !listed.getD c true) = true) (hQ : ∀ c a w, Q (.panic c) (a.put oi.dst v) w → Q (.panic c) a w) (hw : Region.wanted oi (yielded ops tmps) = true)
    (hy : ∀ w, S w → oi.about P w (Act.eval { tmps := tmps, defers := ds }) = none ∧ (execOp (Act.eval { tmps := tmps, defers := ds }) oi).run P w = .ok (.value v) w) (hS : S w)
    (h : heldD F n P ops Q S D fuel (listed.setIfInBounds i true) { tmps := tmps.setIfInBounds d v, defers := ds } w) : heldD F n P ops Q S D (fuel + 1) listed { tmps := tmps, defers := ds } w := by
  simp only [Bool.and_eq_true, Bool.not_eq_true', List.contains_eq_mem, decide_eq_true_eq, decide_eq_false_iff_not] at hDC
  refine heldD_firstC C hro hi (Region.noSelect_spec hs) hQ hDC.1 hDC.2 (fun c hc oc hoc => ?_) fuel listed _ w (Region.free_spec hi hf) (by simpa using hr) ⟨hw, hy⟩ (fun c hc => ?_) hS (by rw [hd]; exact h)
  · have hq := List.all_eq_true.1 hW c hc
    rw [hoc] at hq
    simp only [Array.any_eq_true, Bool.and_eq_true, Bool.or_eq_true, beq_iff_eq, List.contains_eq_mem, decide_eq_true_eq] at hq
    obtain ⟨k, hk, h1, h2⟩ := hq
    exact ⟨_, Array.getElem_mem hk, h1, h2⟩
  · have hq := List.all_eq_true.1 hC c hc
    simpa using hq
theorem wpOp_valueA {i : Nat} {o : Oper} {d : Nat} {tmps : Array Value} {ds : List Deferred} {w w' : World} {v : Value} {K : Act → World → Prop} (hi : ops[i]? = some o) (hd : o.dst = some d) (hw : Region.wanted o (yielded ops tmps) = true)
    (he : (execOp (Act.eval { tmps := tmps, defers := ds }) o).run P w = .ok (.value v) w') (hk : K { tmps := tmps.setIfInBounds d v, defers := ds } w') : wpOp P ops Q i K { tmps := tmps, defers := ds } w := by
  unfold wpOp
  rw [hi]
  simp only [hw, if_true]
  refine .inl ?_
  unfold Oper.wp
  rw [he]
  simp only [Oper.upon]
  rw [hd]; exact hk
end
end Go.Proofs.YtnkcmlngoeofgaaDoor
