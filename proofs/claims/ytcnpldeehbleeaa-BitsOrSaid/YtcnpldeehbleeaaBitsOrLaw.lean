/- BitsOr: behind an Or a row has what either had. -/
import Derived.Test.YtcnpldeehbleeaaBitsOr
import Derived.IntWalk
namespace Go.Proofs.Ytcnpldeehbleeaa
open Go.RowKit Go.Shelf
theorem drawn_eq {n wd : Nat} {S : List Int} {l m : List UInt8} (h1 : Drawn n wd S l) (h2 : Drawn n wd S m) (R I : Nat) (hR : R < n) (hI : I < wd) : getB n wd l R I = getB n wd m R I := by
  rw [Drawn.get hR hI, Drawn.get hR hI, h1 R hR I (by omega), h2 R hR I (by omega)]
theorem new_succ (n wd : Nat) (w : World) (hn9 : n ≤ 9) (hw9 : wd ≤ 40) :
    Calls Try.prog 26 #[.int .i64 n, .int .i64 ((wd : Int) + 1)] w fun e w' => ∃ p g, e = .returned (.pointer (some ⟨p, 0, none⟩)) ∧ Bt w' p g n (wd + 1) (List.replicate (n * ((wd + 1 + 7) / 8)) 0) ∧ w.heap.size ≤ p ∧ w.heap.size ≤ g ∧ Below w.heap.size w w' := by
  have h := new_any n (wd + 1) w (by omega) (by omega) (Nat.le_trans (Nat.mul_le_mul hn9 (show (wd + 1 + 7) / 8 ≤ 10 by omega)) (by omega))
  rw [Int.natCast_add] at h
  exact h
set_option maxHeartbeats 8000000 in
set_option maxRecDepth 100000 in
theorem bitsOr_any (a b x0 x1 : Nat) (ha : a < 256) (hb : b < 256) (hx0 : x0 < 256) (hx1 : x1 < 256) (u v : Value) (S T : List Int) (w : World) (hS : SlI w u .u8 S) (hT : SlI w v .u8 T) (hxS : ∀ x ∈ S, 0 ≤ x ∧ x < 256) (hxT : ∀ x ∈ T, 0 ≤ x ∧ x < 256) :
    Calls Try.prog 9 #[.agg #[.int .u8 a, .int .u8 b, u, v], .agg #[.int .u8 x0, .int .u8 x1]] w fun e w' => e = .returned (.bool true) ∧ Below w.heap.size w w' := by
  obtain ⟨n0, hn0⟩ : ∃ n0, n0 = a % 9 := ⟨_, rfl⟩
  obtain ⟨n, hn⟩ : ∃ n, n = 1 + n0 := ⟨_, rfl⟩
  obtain ⟨wd, hwd⟩ : ∃ wd, wd = b % 41 := ⟨_, rfl⟩
  obtain ⟨t0, ht0⟩ : ∃ t0, t0 = x0 % (n + 2) := ⟨_, rfl⟩
  obtain ⟨t1, ht1⟩ : ∃ t1, t1 = x1 % (n + 2) := ⟨_, rfl⟩
  obtain ⟨n2, hn2⟩ : ∃ n2, n2 = n + 2 := ⟨_, rfl⟩
  rw [← hn2] at ht0 ht1
  have hn9 : n ≤ 9 := by omega
  have hn1 : 1 ≤ n := by omega
  have hw9 : wd ≤ 40 := by omega
  have ht0n : t0 ≤ n + 1 := by have := Nat.mod_lt x0 (show 0 < n2 by omega); omega
  have ht1n : t1 ≤ n + 1 := by have := Nat.mod_lt x1 (show 0 < n2 by omega); omega
  obtain ⟨tr, htr⟩ : ∃ tr : Int, tr = (t0 : Int) - 1 := ⟨_, rfl⟩
  obtain ⟨fr, hfr⟩ : ∃ fr : Int, fr = (t1 : Int) - 1 := ⟨_, rfl⟩
  have f1 : (a : Int).tmod 9 = n0 := by rw [Int.tmod_eq_emod_of_nonneg (by omega)]; omega
  have f2 : (b : Int).tmod 41 = wd := by rw [Int.tmod_eq_emod_of_nonneg (by omega)]; omega
  have f3 : (a : Int) % 9 = n0 := by omega
  have f4 : (b : Int) % 41 = wd := by omega
  have f5 : (x0 : Int) % (n2 : Int) = t0 := by rw [ht0]; rfl
  have f6 : (x1 : Int) % (n2 : Int) = t1 := by rw [ht1]; rfl
  have f7 : (x0 : Int).tmod (n2 : Int) = t0 := by rw [Int.tmod_eq_emod_of_nonneg (by omega)]; exact f5
  have f8 : (x1 : Int).tmod (n2 : Int) = t1 := by rw [Int.tmod_eq_emod_of_nonneg (by omega)]; exact f6
  have f9 : (1 : Int) + (n0 : Int) = n := by omega
  have f10 : (n : Int) + 2 = n2 := by omega
  have hz1 : ((n2 : Int) == 0) = false := by rw [beq_eq_false_iff_ne]; omega
  have hz3 : ¬ n2 = 0 := by omega
  have q1 : IntKind.i64.wrap (n0 : Int) = n0 := i64_wrap (by omega) (by omega)
  have q2 : IntKind.i64.wrap (wd : Int) = wd := i64_wrap (by omega) (by omega)
  have q3 : IntKind.u8.wrap (n0 : Int) = n0 := by simp [IntKind.wrap, IntKind.signed, IntKind.bits]; omega
  have q4 : IntKind.u8.wrap (wd : Int) = wd := by simp [IntKind.wrap, IntKind.signed, IntKind.bits]; omega
  have q5 : IntKind.i64.wrap (n : Int) = n := i64_wrap (by omega) (by omega)
  have q6 : IntKind.i64.wrap (n2 : Int) = n2 := i64_wrap (by omega) (by omega)
  have q7 : IntKind.i64.wrap (x0 : Int) = x0 := i64_wrap (by omega) (by omega)
  have q8 : IntKind.i64.wrap (x1 : Int) = x1 := i64_wrap (by omega) (by omega)
  have q9 : IntKind.i64.wrap (t0 : Int) = t0 := i64_wrap (by omega) (by omega)
  have q10 : IntKind.i64.wrap (t1 : Int) = t1 := i64_wrap (by omega) (by omega)
  have q11 : IntKind.i64.wrap ((t0 : Int) - 1) = tr := by rw [htr]; exact IntWalk.i64_in _ (by omega)
  have q12 : IntKind.i64.wrap ((t1 : Int) - 1) = fr := by rw [hfr]; exact IntWalk.i64_in _ (by omega)
  have Hn := Lib.hid hn; have Hwd := Lib.hid hwd; have Hn0 := Lib.hid hn0; have Ht0 := Lib.hid ht0; have Ht1 := Lib.hid ht1; have Htr := Lib.hid htr; have Hfr := Lib.hid hfr; have HN2 := Lib.hid hn2
  have HS := Lib.hid hS; have HXS := Lib.hid hxS; have HT := Lib.hid hT; have HXT := Lib.hid hxT
  clear hn hwd hn0 ht0 ht1 htr hfr hn2 hS hxS hT hxT
  go_enter Try.func9, Try.ntmps9
  go_wp2_with fail
  refine (works_any _).mono ?_
  rintro e w1 ⟨rfl, hb1⟩
  have hbx := ((Blk.new w #[.int .u8 a, .int .u8 b, u, v] 43 (0, 0)).alloc (.cells #[.int .u8 x0, .int .u8 x1] 50)).below hb1 (by simp; omega)
  have hby := (Blk.new (w.alloc (.cells #[.int .u8 a, .int .u8 b, u, v] 43)) #[.int .u8 x0, .int .u8 x1] 50 (0, 0)).below hb1 (by simp)
  rw [World.size_alloc] at hby
  have Hb1 := Lib.hid ((((Below.refl w.heap.size w).alloc (Nat.le_refl _) (.cells #[.int .u8 a, .int .u8 b, u, v] 43)).alloc (by simp) (.cells #[.int .u8 x0, .int .u8 x1] 50)).trans (hb1.mono (by simp; omega)))
  have c0 := hbx.cell 0
  have c1 := hbx.cell 1
  change w1.cell? ⟨w.heap.size, 0, none⟩ = some (.int .u8 a) at c0
  change w1.cell? ⟨w.heap.size, 1, none⟩ = some (.int .u8 b) at c1
  have HX0 := Lib.hid hbx
  have HY0 := Lib.hid hby
  clear hb1 hbx hby
  go_wp2_with fail
  go_region_held3 (fun w' => w'.cell? ⟨w.heap.size, 0, none⟩ = some (.int .u8 a) ∧ w'.cell? ⟨w.heap.size, 1, none⟩ = some (.int .u8 b)) (exact ⟨c0, c1⟩) (fail)
  clear c0 c1
  go_upto_region 4 with fail
  go_cut [7, 8, 9] (fun s7 s8 s9 wx => ∃ p g l p2 g2 m p3 g3 l3, s7 = .pointer (some ⟨p, 0, none⟩) ∧ s8 = .pointer (some ⟨p2, 0, none⟩) ∧ s9 = .pointer (some ⟨p3, 0, none⟩) ∧ Bt wx p g n wd l ∧ Bt wx p2 g2 n wd m ∧ Bt wx p3 g3 n wd l3 ∧ Drawn n wd S l ∧ Drawn n wd T m ∧ Drawn n wd S l3 ∧ Below w.heap.size w wx ∧
    Hid (Blk wx (w.heap.size + 1) #[.int .u8 x0, .int .u8 x1] 50 (0, 0)) ∧ w.heap.size + 1 < g ∧ (p2 ≠ g ∧ p3 ≠ g ∧ g2 ≠ g ∧ g3 ≠ g))
  case first =>
    have CA := Lib.hid (fun W (hW : Below w.heap.size w W) => drawn_any n wd u S W (by omega) (by omega) (HS.out.below hW) HXS.out)
    have CB := Lib.hid (fun W (hW : Below w.heap.size w W) => drawn_any n wd v T W (by omega) (by omega) (HT.out.below hW) HXT.out)
    have HW := Lib.hid Hb1.out.drew.drew
    have HX : Blk w1.drew.drew w.heap.size #[.int .u8 a, .int .u8 b, u, v] 43 (0, 0) := HX0.out
    have HY : Blk w1.drew.drew (w.heap.size + 1) #[.int .u8 x0, .int .u8 x1] 50 (0, 0) := HY0.out
    have HX := Lib.hid HX; have HY := Lib.hid HY
    have hsz : w.heap.size + 1 < w1.drew.drew.heap.size := HY.out.lt
    have hc2 : w1.drew.drew.cell? ⟨w.heap.size, 2, none⟩ = some u := HX.out.cell 2
    have hc3 : w1.drew.drew.cell? ⟨w.heap.size, 3, none⟩ = some v := HX.out.cell 3
    clear f1 f2 f3 f4 f5 f6 f7 f8 f9 f10 q1 q2 q3 q4 q5 q6 q7 q8 q9 q10 q11 q12 hz1 hz3
    go_region_held3 (fun w' => w'.cell? ⟨w.heap.size, 2, none⟩ = some u ∧ w'.cell? ⟨w.heap.size, 3, none⟩ = some v) (exact ⟨HX.out.cell 2, HX.out.cell 3⟩)
      (first
        | ((fail_if_success (have _x := hbtA)); go_at_call 20; (with_reducible refine (CA.out _ HW.out).mono ?_); rintro e w' ⟨pA, gA, lA, rfl, hbtA, hpA, hgA, hbA, hdA⟩; have lA1 := hbtA.head.lt; have lA2 := hbtA.body.lt; replace HW := Lib.hid (HW.out.next' hbA); replace HX := Lib.hid (HX.out.below hbA HX.out.lt); replace HY := Lib.hid (HY.out.below hbA HY.out.lt); (try (replace hbtB := hbtB.later hbA)); (try (replace hbtC := hbtC.later hbA)))
        | (go_at_call 20; (with_reducible refine (CA.out _ HW.out).mono ?_); rintro e w' ⟨pC, gC, lC, rfl, hbtC, hpC, hgC, hbC, hdC⟩; have lC1 := hbtC.head.lt; have lC2 := hbtC.body.lt; replace HW := Lib.hid (HW.out.next' hbC); replace HX := Lib.hid (HX.out.below hbC HX.out.lt); replace HY := Lib.hid (HY.out.below hbC HY.out.lt); (try (replace hbtA := hbtA.later hbC)); (try (replace hbtB := hbtB.later hbC)))
        | (go_at_call 20; (with_reducible refine (CB.out _ HW.out).mono ?_); rintro e w' ⟨pB, gB, lB, rfl, hbtB, hpB, hgB, hbB, hdB⟩; have lB1 := hbtB.head.lt; have lB2 := hbtB.body.lt; replace HW := Lib.hid (HW.out.next' hbB); replace HX := Lib.hid (HX.out.below hbB HX.out.lt); replace HY := Lib.hid (HY.out.below hbB HY.out.lt); (try (replace hbtA := hbtA.later hbB)); (try (replace hbtC := hbtC.later hbB))))
    all_goals
      go_wp2_with fail
      go_meet
      first
        | exact ⟨pA, gA, lA, pB, gB, lB, pC, gC, lC, rfl, rfl, rfl, hbtA, hbtB, hbtC, hdA, hdB, hdC, HW.out, HY, by omega, by omega, by omega, by omega, by omega⟩
        | exact ⟨pC, gC, lC, pB, gB, lB, pA, gA, lA, rfl, rfl, rfl, hbtC, hbtB, hbtA, hdC, hdB, hdA, HW.out, HY, by omega, by omega, by omega, by omega, by omega⟩
  case rest =>
    obtain ⟨p, g, l, p2, g2, m, p3, g3, l3, rfl, rfl, rfl, hb1, hb2, hb3, hd1, hd2, hd3, hbl, HY, hgx, hn1', hn2', hn3', hn4'⟩ := hcut
    have H1 := Lib.hid hb1; have H2 := Lib.hid hb2; have H3 := Lib.hid hb3; have HD1 := Lib.hid hd1; have HD2 := Lib.hid hd2; have HD3 := Lib.hid hd3; have HB := Lib.hid hbl
    clear hb1 hb2 hb3 hd1 hd2 hd3 hbl f1 f2 f3 f4 f9 q1 q2 q3 q4
    go_wp2_with fail
    refine (bytes_any p2 g2 n wd m _ H2.out).mono ?_
    rintro e w' ⟨rfl, rfl⟩
    have d0 := HY.out.cell 0
    have d1 := HY.out.cell 1
    change wc.cell? ⟨w.heap.size + 1, 0, none⟩ = some (.int .u8 x0) at d0
    change wc.cell? ⟨w.heap.size + 1, 1, none⟩ = some (.int .u8 x1) at d1
    go_wp2_with fail
    go_region_held3 (fun w' => w'.cell? ⟨w.heap.size + 1, 0, none⟩ = some (.int .u8 x0) ∧ w'.cell? ⟨w.heap.size + 1, 1, none⟩ = some (.int .u8 x1)) (exact ⟨d0, d1⟩) (fail)
    clear f5 f6 f7 f8 f10 q5 q6 q7 q8 q9 q10 q11 q12 hz1 hz3 d0 d1
    obtain ⟨th, hth⟩ : ∃ th : Bool, th = decide (0 ≤ tr ∧ tr < n ∧ 0 ≤ fr ∧ fr < n) := ⟨_, rfl⟩
    have Hth := Lib.hid hth
    clear hth
    go_upto_region 7 with fail
    go_cut [13] (fun s wx => s = .bool th ∧ wx = wc.drew)
    case first =>
      by_cases h1 : 0 ≤ tr
      · by_cases h2 : tr < n
        · by_cases h3 : 0 ≤ fr
          · by_cases h4 : fr < n
            · have k1 : decide (0 ≤ tr) = true := decide_eq_true h1
              have k2 : decide (tr < n) = true := decide_eq_true h2
              have k3 : decide (0 ≤ fr) = true := decide_eq_true h3
              have k4 : decide (fr < n) = true := decide_eq_true h4
              go_wp2_with fail
              go_meet
              exact ⟨by rw [Hth.out, decide_eq_true (by omega)], rfl⟩
            · have k1 : decide (0 ≤ tr) = true := decide_eq_true h1
              have k2 : decide (tr < n) = true := decide_eq_true h2
              have k3 : decide (0 ≤ fr) = true := decide_eq_true h3
              have k4 : decide (fr < n) = false := decide_eq_false h4
              go_wp2_with fail
              go_meet
              exact ⟨by rw [Hth.out, decide_eq_false (by omega)], rfl⟩
          · have k1 : decide (0 ≤ tr) = true := decide_eq_true h1
            have k2 : decide (tr < n) = true := decide_eq_true h2
            have k3 : decide (0 ≤ fr) = false := decide_eq_false h3
            go_wp2_with fail
            go_meet
            exact ⟨by rw [Hth.out, decide_eq_false (by omega)], rfl⟩
        · have k1 : decide (0 ≤ tr) = true := decide_eq_true h1
          have k2 : decide (tr < n) = false := decide_eq_false h2
          go_wp2_with fail
          go_meet
          exact ⟨by rw [Hth.out, decide_eq_false (by omega)], rfl⟩
      · have k1 : decide (0 ≤ tr) = false := decide_eq_false h1
        go_wp2_with fail
        go_meet
        exact ⟨by rw [Hth.out, decide_eq_false (by omega)], rfl⟩
    case rest =>
      obtain ⟨rfl, rfl⟩ := hcut
      have H1d := H1.out.later ((Below.refl _ _).drew)
      have H2d := H2.out.later ((Below.refl _ _).drew)
      have H3d := H3.out.later ((Below.refl _ _).drew)
      have HBd := HB.out.drew
      have H1 := Lib.hid H1d; have H2 := Lib.hid H2d; have H3 := Lib.hid H3d; have HB := Lib.hid HBd
      have C0 := or_all p g n wd l p2 g2 n m tr fr _ H1d H2d hn1' (Or.inl hn3')
      rw [← Hth.out] at C0
      have HC0 := Lib.hid C0
      clear C0
      clear H1d H2d H3d HBd
      have htt : (th != th) = false := by cases th <;> rfl
      go_wp2_with fail
      refine HC0.out.mono ?_
      rintro e w2 ⟨l', rfl, hbt, hk, hbits⟩
      have H2' := Lib.hid (H2.out.kept hk hn1' hn3'); have H3' := Lib.hid (H3.out.kept hk hn2' hn4'); have H1' := Lib.hid hbt; have Hbits := Lib.hid hbits
      have HB' := Lib.hid (HB.out.trans (hk.below (B := w.heap.size) HB.out.size (fun k hk => by omega)))
      clear hk hbt hbits HC0 H1 H2 H3 HB
      go_wp2_with fail
      refine (bytes_any p2 g2 n wd m _ H2'.out).mono ?_
      rintro e w' ⟨rfl, rfl⟩
      go_wp2_with fail
      (with_reducible refine (new_succ n wd _ hn9 hw9).mono ?_)
      rintro e w4 ⟨p4, g4, rfl, hb4, hp4, hg4, hb⟩
      have H1 := Lib.hid (H1'.out.later hb); have H2 := Lib.hid (H2'.out.later hb); have H3 := Lib.hid (H3'.out.later hb); have H4 := Lib.hid hb4; have HB := Lib.hid (HB'.out.next' hb)
      clear hb4 hb H1' H2' H3' HB'
      go_wp2_with fail
      refine (or_no p g n wd l' p4 g4 n (wd + 1) _ 0 0 _ H1.out H4.out (by omega)).mono ?_
      rintro e w5 ⟨rfl, hb⟩
      have H1' := Lib.hid (H1.out.later hb); have H2' := Lib.hid (H2.out.later hb); have H3' := Lib.hid (H3.out.later hb); have HB' := Lib.hid (HB.out.next' hb)
      clear hb H1 H2 H3 H4 HB
      go_wp2_with fail
      go_loopw [14, 15] (fun r _ wr => ∃ (k : Nat), k ≤ n ∧ r = .int .i64 k ∧ Below w5.heap.size w5 wr) (fun r _ _ => n - (intOf r).toNat)
      case atStart => exact ⟨0, Nat.zero_le _, rfl, Below.refl _ _⟩
      case round =>
        obtain ⟨k, hk, rfl, hB⟩ := hrel
        have HBk := Lib.hid hB
        clear hB
        obtain ⟨wo, rfl⟩ : ∃ wo : World, wo = wr := ⟨_, rfl⟩
        by_cases hlt : k < n
        · go_wp2_with fail
          go_loopw [15] (fun c wr => ∃ (i : Nat), i ≤ wd ∧ c = .int .i64 i ∧ Below w5.heap.size w5 wr) (fun c _ => wd - (intOf c).toNat)
          case atStart => exact ⟨0, Nat.zero_le _, rfl, HBk.out⟩
          case round =>
            clear HBk
            obtain ⟨i, hi, rfl, hB⟩ := hrel
            have HBk := Lib.hid hB
            clear hB
            by_cases hlt2 : i < wd
            · obtain ⟨x, hx⟩ : ∃ x, x = getB n wd l k i := ⟨_, rfl⟩
              obtain ⟨y, hy⟩ : ∃ y, y = getB n wd m fr i := ⟨_, rfl⟩
              have hx3 : getB n wd l3 k i = x := by rw [hx]; exact drawn_eq HD3.out HD1.out k i hlt hlt2
              have hz := Hbits.out k i hlt hlt2
              rw [← hx, ← hy] at hz
              have C2 : ∀ W, Below w5.heap.size w5 W → Calls Try.prog 23 #[.pointer (some ⟨p3, 0, none⟩), .int .i64 k, .int .i64 i] W fun e w' => e = .returned (.bool x) ∧ Below W.heap.size W w' := fun W hW => by
                rw [← hx3]; exact get_any p3 g3 n wd l3 k i W (H3'.out.later hW)
              have C3 : ∀ W, Below w5.heap.size w5 W → Calls Try.prog 23 #[.pointer (some ⟨p2, 0, none⟩), .int .i64 fr, .int .i64 i] W fun e w' => e = .returned (.bool y) ∧ Below W.heap.size W w' := fun W hW => by
                rw [hy]; exact get_any p2 g2 n wd m fr i W (H2'.out.later hW)
              have C1 : ∀ W, Below w5.heap.size w5 W → Calls Try.prog 23 #[.pointer (some ⟨p, 0, none⟩), .int .i64 k, .int .i64 i] W fun e w' => e = .returned (.bool (x || th && (decide ((k : Int) = tr) && y))) ∧ Below W.heap.size W w' := fun W hW => by
                rw [← hz]; exact get_any p g n wd l' k i W (H1'.out.later hW)
              have HC2 := Lib.hid C2; have HC3 := Lib.hid C3; have HC1 := Lib.hid C1
              clear hx hy hx3 hz C1 C2 C3
              cases x with
              | true =>
                rw [Bool.true_or] at HC1
                go_wp2_with fail
                refine (HC1.out _ HBk.out).mono ?_; rintro e w6 ⟨rfl, hb6⟩
                have HB6 := Lib.hid (HBk.out.next' hb6)
                clear hb6
                go_wp2_with fail
                refine (HC2.out _ HB6.out).mono ?_; rintro e w7 ⟨rfl, hb7⟩
                have HB7 := Lib.hid (HB6.out.next' hb7)
                clear hb7
                go_wp2_with fail
                go_roundw
                case rel => exact ⟨i + 1, by omega, by go_num, HB7.out⟩
                case measure => simp [intOf]; omega
              | false =>
                rw [Bool.false_or] at HC1
                cases th with
                | false =>
                  rw [Bool.false_and] at HC1
                  go_wp2_with fail
                  refine (HC1.out _ HBk.out).mono ?_; rintro e w6 ⟨rfl, hb6⟩
                  have HB6 := Lib.hid (HBk.out.next' hb6)
                  clear hb6
                  go_wp2_with fail
                  refine (HC2.out _ HB6.out).mono ?_; rintro e w7 ⟨rfl, hb7⟩
                  have HB7 := Lib.hid (HB6.out.next' hb7)
                  clear hb7
                  go_wp2_with fail
                  go_roundw
                  case rel => exact ⟨i + 1, by omega, by go_num, HB7.out⟩
                  case measure => simp [intOf]; omega
                | true =>
                  rw [Bool.true_and] at HC1
                  by_cases hkt : (k : Int) = tr
                  · rw [decide_eq_true hkt, Bool.true_and] at HC1
                    have e1 : ((k : Int) == tr) = true := by rw [beq_iff_eq]; exact hkt
                    have e2 : decide ((k : Int) = tr) = true := decide_eq_true hkt
                    have Hkt := Lib.hid hkt
                    clear hkt
                    have hyy : (y != y) = false := by cases y <;> rfl
                    go_wp2_with fail
                    refine (HC1.out _ HBk.out).mono ?_; rintro e w6 ⟨rfl, hb6⟩
                    have HB6 := Lib.hid (HBk.out.next' hb6)
                    clear hb6
                    go_wp2_with fail
                    refine (HC2.out _ HB6.out).mono ?_; rintro e w7 ⟨rfl, hb7⟩
                    have HB7 := Lib.hid (HB6.out.next' hb7)
                    clear hb7
                    go_wp2_with fail
                    refine (HC3.out _ HB7.out).mono ?_; rintro e w8 ⟨rfl, hb8⟩
                    have HB8 := Lib.hid (HB7.out.next' hb8)
                    clear hb8
                    go_wp2_with fail
                    go_roundw
                    case rel => exact ⟨i + 1, by omega, by go_num, HB8.out⟩
                    case measure => simp [intOf]; omega
                  · rw [decide_eq_false hkt, Bool.false_and] at HC1
                    have e1 : ((k : Int) == tr) = false := by rw [beq_eq_false_iff_ne]; exact hkt
                    have e2 : decide ((k : Int) = tr) = false := decide_eq_false hkt
                    have Hkt := Lib.hid hkt
                    clear hkt
                    go_wp2_with fail
                    refine (HC1.out _ HBk.out).mono ?_; rintro e w6 ⟨rfl, hb6⟩
                    have HB6 := Lib.hid (HBk.out.next' hb6)
                    clear hb6
                    go_wp2_with fail
                    refine (HC2.out _ HB6.out).mono ?_; rintro e w7 ⟨rfl, hb7⟩
                    have HB7 := Lib.hid (HB6.out.next' hb7)
                    clear hb7
                    go_wp2_with fail
                    go_roundw
                    case rel => exact ⟨i + 1, by omega, by go_num, HB7.out⟩
                    case measure => simp [intOf]; omega
            · obtain rfl : i = wd := by omega
              go_wp2_with fail
              go_roundw
              case rel => exact ⟨k + 1, by omega, by go_num, HBk.out⟩
              case measure => simp [intOf]; omega
        · go_wp2_with fail
          go_ret
          exact ⟨rfl, HB'.out.next' HBk.out⟩
theorem lawBitsOr_any (cs xs : Array Value) (w : World) (h : Rd Try.prog w 43 cs.toList) (hx : Rd Try.prog w 50 xs.toList) :
    Calls Try.prog 9 #[.agg cs, .agg xs] w fun e w' => e = .returned (.bool true) ∧ Below w.heap.size w w' := by
  obtain ⟨a, b, u, v, S, T, rfl, ha, hb, hS, hT, hxS, hxT⟩ := Rd.drawn h
  obtain ⟨x0, x1, rfl, h0, h1⟩ := Rd.two hx
  exact bitsOr_any a b x0 x1 ha hb h0 h1 u v S T w hS hT hxS hxT
end Go.Proofs.Ytcnpldeehbleeaa
