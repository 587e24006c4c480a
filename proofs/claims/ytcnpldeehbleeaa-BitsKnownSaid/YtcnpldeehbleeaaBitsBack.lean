/- BitsBack: rows come back from their bytes. -/
import Derived.Test.YtcnpldeehbleeaaBitsF
import Derived.Deep.DeepCutAuto
namespace Go.Proofs.Ytcnpldeehbleeaa
open Go.RowKit Go.Shelf
theorem Drawn.pad {n wd : Nat} {S : List Int} {l : List UInt8} (h : Drawn n wd S l) : Pad n wd l := fun r hr i h1 h2 => by
  rw [h r hr i h2, decide_eq_false (by omega), Bool.false_and]
theorem Drawn.get {n wd : Nat} {l : List UInt8} {R I : Nat} (hR : R < n) (hI : I < wd) : getB n wd l R I = bitAt ((wd + 7) / 8) l R I := by
  unfold getB bitAt
  rw [decide_eq_true (show (0 : Int) ≤ R ∧ (R : Int) < n ∧ (0 : Int) ≤ I ∧ (I : Int) < wd by omega), Bool.true_and]
  simp only [Int.toNat_natCast]
theorem alike_bytes {n wd : Nat} {l m : List UInt8} (hl : l.length = n * ((wd + 7) / 8)) (hm : m.length = n * ((wd + 7) / 8)) (h1 : Pad n wd l) (h2 : Pad n wd m)
    (h : ∀ R, R < n → ∀ I, I < wd → getB n wd l R I = getB n wd m R I) : l = m := by
  refine bytes_ext hl hm fun r hr i hi => ?_
  by_cases hw : i < wd
  · rw [← Drawn.get hr hw, ← Drawn.get hr hw]; exact h r hr i hw
  · rw [h1 r hr i (by omega) hi, h2 r hr i (by omega) hi]
theorem Bt.most' {w : World} {p g n wd : Nat} {l : List UInt8} (h : Bt w p g n wd l) : n * ((wd + 7) / 8) ≤ 268435456 := by rw [← h.long]; exact h.most
set_option maxHeartbeats 4000000 in
set_option maxRecDepth 100000 in
theorem bitsBack_any (a b : Nat) (ha : a < 256) (hb : b < 256) (u v : Value) (S T : List Int) (w : World) (hS : SlI w u .u8 S) (hT : SlI w v .u8 T) (hxS : ∀ x ∈ S, 0 ≤ x ∧ x < 256) (hxT : ∀ x ∈ T, 0 ≤ x ∧ x < 256) :
    Calls Try.prog 7 #[.agg #[.int .u8 a, .int .u8 b, u, v]] w fun e w' => e = .returned (.bool true) ∧ Below w.heap.size w w' := by
  obtain ⟨n, hn⟩ : ∃ n, n = a % 10 := ⟨_, rfl⟩
  obtain ⟨wd, hwd⟩ : ∃ wd, wd = b % 41 := ⟨_, rfl⟩
  have f1 : (a : Int).tmod 10 = n := by rw [Int.tmod_eq_emod_of_nonneg (by omega)]; omega
  have f2 : (b : Int).tmod 41 = wd := by rw [Int.tmod_eq_emod_of_nonneg (by omega)]; omega
  have f3 : (a : Int) % 10 = n := by omega
  have f4 : (b : Int) % 41 = wd := by omega
  have hn9 : n ≤ 9 := by omega
  have hw9 : wd ≤ 40 := by omega
  have q1 : IntKind.i64.wrap (n : Int) = n := wrap_small _ (by omega) (by omega)
  have q2 : IntKind.i64.wrap (wd : Int) = wd := wrap_small _ (by omega) (by omega)
  have q3 : IntKind.u8.wrap (n : Int) = n := by simp [IntKind.wrap, IntKind.signed, IntKind.bits]; omega
  have q4 : IntKind.u8.wrap (wd : Int) = wd := by simp [IntKind.wrap, IntKind.signed, IntKind.bits]; omega
  have Hn := Lib.hid hn; have Hwd := Lib.hid hwd; have HS := Lib.hid hS; have HT := Lib.hid hT; have HXS := Lib.hid hxS; have HXT := Lib.hid hxT
  clear hn hwd hS hT hxS hxT
  go_enter Try.func7, Try.ntmps7
  go_wp2_with fail
  refine (works_any _).mono ?_
  rintro e w1 ⟨rfl, hb1⟩
  have hbx := (Blk.new w #[.int .u8 a, .int .u8 b, u, v] 43 (0, 0)).below hb1 (by simp)
  have Hb1 := Lib.hid (((Below.refl _ _).alloc (Nat.le_refl _) (.cells #[.int .u8 a, .int .u8 b, u, v] 43)).trans (hb1.mono (by simp)))
  have c0 := hbx.cell 0
  have c1 := hbx.cell 1
  have c2 := hbx.cell 2
  have c3 := hbx.cell 3
  change w1.cell? ⟨w.heap.size, 0, none⟩ = some (.int .u8 a) at c0
  change w1.cell? ⟨w.heap.size, 1, none⟩ = some (.int .u8 b) at c1
  change w1.cell? ⟨w.heap.size, 2, none⟩ = some u at c2
  change w1.cell? ⟨w.heap.size, 3, none⟩ = some v at c3
  have Hbx := Lib.hid hbx
  clear hb1 hbx
  go_wp2_with fail
  go_region_held3 (fun w' => w'.cell? ⟨w.heap.size, 0, none⟩ = some (.int .u8 a) ∧ w'.cell? ⟨w.heap.size, 1, none⟩ = some (.int .u8 b)) (exact ⟨c0, c1⟩) (fail)
  go_upto_region 4 with fail
  go_cut [5, 6] (fun s5 s6 wx => ∃ p g l p2 g2 m, s5 = .pointer (some ⟨p, 0, none⟩) ∧ s6 = .pointer (some ⟨p2, 0, none⟩) ∧ Bt wx p g n wd l ∧ Bt wx p2 g2 n wd m ∧ Drawn n wd S l ∧ Drawn n wd T m ∧ Below w.heap.size w wx)
  case first =>
    have CA := Lib.hid (fun W (hW : Below w.heap.size w W) => drawn_any n wd u S W (by omega) (by omega) (HS.out.below hW) HXS.out)
    have CB := Lib.hid (fun W (hW : Below w.heap.size w W) => drawn_any n wd v T W (by omega) (by omega) (HT.out.below hW) HXT.out)
    have HbD := Lib.hid Hb1.out.drew.drew
    have hlt : w.heap.size < w1.drew.drew.heap.size := Hbx.out.lt
    go_region_held3 (fun w' => w'.cell? ⟨w.heap.size, 2, none⟩ = some u ∧ w'.cell? ⟨w.heap.size, 3, none⟩ = some v) (first | exact ⟨c2, c3⟩ | exact ⟨(hbA.cell (p := ⟨w.heap.size, 2, none⟩) hlt).trans c2, (hbA.cell (p := ⟨w.heap.size, 3, none⟩) hlt).trans c3⟩ | exact ⟨(hbB.cell (p := ⟨w.heap.size, 2, none⟩) hlt).trans c2, (hbB.cell (p := ⟨w.heap.size, 3, none⟩) hlt).trans c3⟩ | exact ⟨(hbB.cell (p := ⟨w.heap.size, 2, none⟩) (Nat.lt_of_lt_of_le hlt hbA.size)).trans ((hbA.cell (p := ⟨w.heap.size, 2, none⟩) hlt).trans c2), (hbB.cell (p := ⟨w.heap.size, 3, none⟩) (Nat.lt_of_lt_of_le hlt hbA.size)).trans ((hbA.cell (p := ⟨w.heap.size, 3, none⟩) hlt).trans c3)⟩ | exact ⟨(hbA.cell (p := ⟨w.heap.size, 2, none⟩) (Nat.lt_of_lt_of_le hlt hbB.size)).trans ((hbB.cell (p := ⟨w.heap.size, 2, none⟩) hlt).trans c2), (hbA.cell (p := ⟨w.heap.size, 3, none⟩) (Nat.lt_of_lt_of_le hlt hbB.size)).trans ((hbB.cell (p := ⟨w.heap.size, 3, none⟩) hlt).trans c3)⟩)
      (first
        | (go_at_call 20; (with_reducible refine (CA.out _ ?_).mono ?_); (first | exact HbD.out | exact HbD.out.next' hbB); rintro e w' ⟨pA, gA, lA, rfl, hbtA, hpA, hgA, hbA, hdA⟩)
        | (go_at_call 20; (with_reducible refine (CB.out _ ?_).mono ?_); (first | exact HbD.out | exact HbD.out.next' hbA); rintro e w' ⟨pB, gB, lB, rfl, hbtB, hpB, hgB, hbB, hdB⟩))
    all_goals
      go_wp2_with fail
      go_meet
      exact ⟨pA, gA, lA, pB, gB, lB, rfl, rfl, by first | exact hbtA | exact hbtA.later hbB, by first | exact hbtB | exact hbtB.later hbA, hdA, hdB, by first | exact (HbD.out.next' hbA).next' hbB | exact (HbD.out.next' hbB).next' hbA⟩
  case rest =>
    obtain ⟨p, g, l, p2, g2, m, rfl, rfl, hb1, hb2, hd1, hd2, hbl⟩ := hcut
    have hlen := hb1.long
    have hpad := hd1.pad
    have H1 := Lib.hid hb1; have H2 := Lib.hid hb2; have HD1 := Lib.hid hd1; have HD2 := Lib.hid hd2; have HB := Lib.hid hbl
    have HPad := Lib.hid hpad; have HLen := Lib.hid hlen
    clear hb1 hb2 hd1 hd2 hbl hpad hlen c0 c1 c2 c3 Hbx Hb1
    go_wp2_with fail
    refine (bytes_any p g n wd l _ H1.out).mono ?_
    rintro e w' ⟨rfl, rfl⟩
    go_wp2_with fail
    refine (from_yes n wd ⟨l.toArray⟩ _ (by omega) (by omega) H1.out.most' HLen.out HPad.out).mono ?_
    rintro e w3 ⟨p3, g3, rfl, hb3, hp3, hg3, hb⟩
    have H3 := Lib.hid hb3; have H1' := Lib.hid (H1.out.later hb); have H2' := Lib.hid (H2.out.later hb); have HB' := Lib.hid (HB.out.next' hb)
    clear hb hb3 H1 H2 HB
    go_wp2_with fail
    refine (bytes_any p g n wd l _ H1'.out).mono ?_
    rintro e w' ⟨rfl, rfl⟩
    obtain ⟨lg, hlg⟩ : ∃ lg, lg = (wd + 7) / 8 := ⟨_, rfl⟩
    have e5 : ((wd : Int) + 7) / 8 = (lg : Int) := by omega
    have e6 : 0 ≤ (n : Int) * (lg : Int) := by rw [← Int.natCast_mul]; omega
    have e7 : (n : Int) * (lg : Int) ≤ 1000 := by
      have : n * lg ≤ 9 * 10 := Nat.mul_le_mul hn9 (by omega)
      rw [← Int.natCast_mul]; omega
    have e8 : ((l.length : Int) != (n : Int) * (lg : Int)) = false := by
      rw [bne_eq_false_iff_eq, HLen.out, ← hlg, Int.natCast_mul]
    have Hlg := Lib.hid hlg
    clear hlg
    go_wp2_with fail
    clear f1 f2 f3 f4 q1 q2 q3 q4 e5 e6 e7 e8
    go_loopw [8, 9, 10] (fun al r c wr => ∃ (k : Nat) (b : Bool), k ≤ n ∧ r = .int .i64 k ∧ al = .bool b ∧ Hid (b = true ↔ ∀ R I, R < k → I < wd → getB n wd l R I = getB n wd m R I) ∧ Below w3.heap.size w3 wr) (fun _ r _ _ => n - (intOf r).toNat)
    case atStart => exact ⟨0, true, Nat.zero_le _, rfl, rfl, Lib.hid (by simp), Below.refl _ _⟩
    case round =>
      obtain ⟨k, b, hk, rfl, rfl, hbk, hB⟩ := hrel
      have HBk := Lib.hid hB
      clear hB
      obtain ⟨wo, rfl⟩ : ∃ wo : World, wo = wr := ⟨_, rfl⟩
      by_cases hlt : k < n
      · go_wp2_with fail
        go_loopw [8, 10] (fun al c wr => ∃ (i : Nat) (b : Bool), i ≤ wd ∧ c = .int .i64 i ∧ al = .bool b ∧ Hid (b = true ↔ ∀ R I, (R < k ∧ I < wd ∨ R = k ∧ I < i) → getB n wd l R I = getB n wd m R I) ∧ Below w3.heap.size w3 wr) (fun _ c _ => wd - (intOf c).toNat)
        case atStart => exact ⟨0, b, Nat.zero_le _, rfl, rfl, Lib.hid (by rw [hbk.out]; exact ⟨fun h R I hh => h R I (by omega) (by omega), fun h R I h1 h2 => h R I (by omega)⟩), HBk.out⟩
        case round =>
          clear hbk HBk
          obtain ⟨i, b, hi, rfl, rfl, hbk, hB⟩ := hrel
          have HBk := Lib.hid hB
          clear hB
          by_cases hlt2 : i < wd
          · obtain ⟨x, hx⟩ : ∃ x, x = getB n wd l k i := ⟨_, rfl⟩
            obtain ⟨y, hy⟩ : ∃ y, y = getB n wd m k i := ⟨_, rfl⟩
            have C1 : ∀ W, Below w3.heap.size w3 W → Calls Try.prog 23 #[.pointer (some ⟨p, 0, none⟩), .int .i64 k, .int .i64 i] W fun e w' => e = .returned (.bool x) ∧ Below W.heap.size W w' := fun W hW => by
              rw [hx]; exact get_any p g n wd l k i W (H1'.out.later hW)
            have C2 : ∀ W, Below w3.heap.size w3 W → Calls Try.prog 23 #[.pointer (some ⟨p2, 0, none⟩), .int .i64 k, .int .i64 i] W fun e w' => e = .returned (.bool y) ∧ Below W.heap.size W w' := fun W hW => by
              rw [hy]; exact get_any p2 g2 n wd m k i W (H2'.out.later hW)
            have C3 : ∀ W, Below w3.heap.size w3 W → Calls Try.prog 23 #[.pointer (some ⟨p3, 0, none⟩), .int .i64 k, .int .i64 i] W fun e w' => e = .returned (.bool x) ∧ Below W.heap.size W w' := fun W hW => by
              rw [hx]; exact get_any p3 g3 n wd l k i W (H3.out.later hW)
            have hnew : (b && (x == y)) = true ↔ ∀ R I, (R < k ∧ I < wd ∨ R = k ∧ I < i + 1) → getB n wd l R I = getB n wd m R I := by
              rw [Bool.and_eq_true, hbk.out, beq_iff_eq, hx, hy]
              constructor
              · rintro ⟨h1, h2⟩ R I hh
                by_cases e : R = k ∧ I = i
                · rw [e.1, e.2]; exact h2
                · exact h1 R I (by omega)
              · exact fun h => ⟨fun R I hh => h R I (by omega), h k i (by omega)⟩
            have C1 := Lib.hid C1; have C2 := Lib.hid C2; have C3 := Lib.hid C3; have Hnew := Lib.hid hnew
            clear hx hy hbk hnew
            have hxx : (x != x) = false := by cases x <;> rfl
            have Hxx := Lib.hid hxx
            go_wp2_with fail
            refine (C3.out _ HBk.out).mono ?_; rintro e w4 ⟨rfl, hb4⟩
            have HB4 := Lib.hid (HBk.out.next' hb4)
            clear hb4
            go_wp2_with fail
            refine (C1.out _ HB4.out).mono ?_; rintro e w5 ⟨rfl, hb5⟩
            have HB5 := Lib.hid (HB4.out.next' hb5)
            clear hb5
            cases b with
            | false =>
              go_wp2_with fail
              go_roundw
              case rel => exact ⟨i + 1, false, by omega, by go_num, rfl, Lib.hid Hnew.out, HB5.out⟩
              case measure => simp [intOf]; omega
            | true =>
              go_wp2_with fail
              refine (C1.out _ HB5.out).mono ?_; rintro e w6 ⟨rfl, hb6⟩
              have HB6 := Lib.hid (HB5.out.next' hb6)
              clear hb6
              go_wp2_with fail
              refine (C2.out _ HB6.out).mono ?_; rintro e w7 ⟨rfl, hb7⟩
              have HB7 := Lib.hid (HB6.out.next' hb7)
              clear hb7
              go_wp2_with fail
              go_roundw
              case rel => exact ⟨i + 1, x == y, by omega, by go_num, rfl, Lib.hid Hnew.out, HB7.out⟩
              case measure => simp [intOf]; omega
          · obtain rfl : i = wd := by omega
            go_wp2_with fail
            go_roundw
            case rel => exact ⟨k + 1, b, by omega, by go_num, rfl, Lib.hid (by rw [hbk.out]; exact ⟨fun h R I h1 h2 => h R I (by omega), fun h R I hh => h R I (by omega) (by omega)⟩), HBk.out⟩
            case measure => simp [intOf]; omega
      · obtain rfl : k = n := by omega
        go_wp2_with fail
        refine (bytes_any p g k wd l _ (H1'.out.later HBk.out)).mono ?_
        rintro e w' ⟨rfl, rfl⟩
        go_wp2_with fail
        refine (bytes_any p2 g2 k wd m _ (H2'.out.later HBk.out)).mono ?_
        rintro e w' ⟨rfl, rfl⟩
        go_wp2_with fail
        have hfin : ((l == m) == b) = true := by
          rw [beq_iff_eq, Bool.eq_iff_iff, beq_iff_eq, hbk.out]
          exact ⟨fun e R I _ _ => by rw [e], fun h => alike_bytes H1'.out.long H2'.out.long HD1.out.pad HD2.out.pad (fun R hR I hI => h R I hR hI)⟩
        go_ret
        exact ⟨congrArg (fun z => Ending.returned (.bool z)) hfin, HB'.out.trans (HBk.out.mono HB'.out.size)⟩
/-- a reading of a Drawn -/
theorem Rd.drawn {w : World} {cs : Array Value} (h : Rd Try.prog w 43 cs.toList) :
    ∃ (a b : Nat) (u v : Value) (S T : List Int), cs = #[.int .u8 a, .int .u8 b, u, v] ∧ a < 256 ∧ b < 256 ∧ SlI w u .u8 S ∧ SlI w v .u8 T ∧ (∀ x ∈ S, 0 ≤ x ∧ x < 256) ∧ (∀ x ∈ T, 0 ≤ x ∧ x < 256) := by
  have hu := Try.underlying43
  have hl := (Rd.struct hu h).1
  have hc : Try.prog.cellsOf 43 = 4 := by kernel_rfl
  have c8 : Try.prog.cellsOf 5 = 1 := by kernel_rfl
  have cS : Try.prog.cellsOf 41 = 1 := by kernel_rfl
  rw [hc] at hl
  obtain ⟨l⟩ := cs
  match l, hl with
  | [c0, c1, c2, c3], _ =>
    have r0 : Rd Try.prog w 5 [c0] := Rd.field hu h 0 rfl c8 rfl
    have r1 : Rd Try.prog w 5 [c1] := Rd.field hu h 1 rfl c8 rfl
    have r2 : Rd Try.prog w 41 [c2] := Rd.field hu h 2 rfl cS rfl
    have r3 : Rd Try.prog w 41 [c3] := Rd.field hu h 3 rfl cS rfl
    obtain ⟨x0, e0, h0⟩ := Rd.int Try.underlying5 r0
    obtain ⟨x1, e1, h1⟩ := Rd.int Try.underlying5 r1
    obtain ⟨S, hS, hxS⟩ := Rd.ints Try.underlying41 Try.underlying5 c8 r2
    obtain ⟨T, hT, hxT⟩ := Rd.ints Try.underlying41 Try.underlying5 c8 r3
    have w8 : ∀ x : Int, (Lit.int .u8 x).wf = true → 0 ≤ x ∧ x < 256 := fun x hx => by
      have : 0 ≤ x ∧ x ≤ 255 := by simpa [Lit.wf, IntKind.min, IntKind.max, IntKind.signed, IntKind.bits] using hx
      omega
    obtain ⟨a, rfl⟩ := Int.eq_ofNat_of_zero_le (w8 _ h0).1
    obtain ⟨b, rfl⟩ := Int.eq_ofNat_of_zero_le (w8 _ h1).1
    have ha := (w8 _ h0).2
    have hb := (w8 _ h1).2
    obtain rfl : c0 = .int .u8 (a : Int) := by simpa using e0
    obtain rfl : c1 = .int .u8 (b : Int) := by simpa using e1
    exact ⟨a, b, c2, c3, S, T, rfl, by omega, by omega, hS, hT, fun x hx => w8 x (hxS x hx), fun x hx => w8 x (hxT x hx)⟩
theorem lawBitsBack_any (cs : Array Value) (w : World) (h : Rd Try.prog w 43 cs.toList) :
    Calls Try.prog 7 #[.agg cs] w fun e w' => e = .returned (.bool true) ∧ Below w.heap.size w w' := by
  obtain ⟨a, b, u, v, S, T, rfl, ha, hb, hS, hT, hxS, hxT⟩ := Rd.drawn h
  exact bitsBack_any a b ha hb u v S T w hS hT hxS hxT
end Go.Proofs.Ytcnpldeehbleeaa
