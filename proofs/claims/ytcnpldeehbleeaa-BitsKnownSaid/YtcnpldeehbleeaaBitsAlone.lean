/- BitsAlone: a bit that is set changes that bit alone. -/
import Derived.Test.YtcnpldeehbleeaaBitsBack
import Derived.Deep.DeepCutAuto
namespace Go.Proofs.Ytcnpldeehbleeaa
open Go.RowKit Go.Shelf
theorem i64_wrap {x : Int} (h1 : 0 ≤ x) (h2 : x ≤ 9223372036854775807) : IntKind.i64.wrap x = x := wrap_small _ h1 (by omega)
set_option maxHeartbeats 4000000 in
set_option maxRecDepth 100000 in
theorem bitsAlone_any (a b x0 x1 : Nat) (ha : a < 256) (hb : b < 256) (hx0 : x0 < 256) (hx1 : x1 < 256) (on : Bool) (u v : Value) (S : List Int) (w : World) (hS : SlI w u .u8 S) (hxS : ∀ x ∈ S, 0 ≤ x ∧ x < 256) :
    Calls Try.prog 8 #[.agg #[.int .u8 a, .int .u8 b, u, v], .agg #[.int .u8 x0, .int .u8 x1], .bool on] w fun e w' => e = .returned (.bool true) ∧ Below w.heap.size w w' := by
  obtain ⟨n0, hn0⟩ : ∃ n0, n0 = a % 9 := ⟨_, rfl⟩
  obtain ⟨wd0, hwd0⟩ : ∃ wd0, wd0 = b % 40 := ⟨_, rfl⟩
  obtain ⟨n, hn⟩ : ∃ n, n = 1 + n0 := ⟨_, rfl⟩
  obtain ⟨wd, hwd⟩ : ∃ wd, wd = 1 + wd0 := ⟨_, rfl⟩
  obtain ⟨R, hR⟩ : ∃ R, R = x0 % n := ⟨_, rfl⟩
  obtain ⟨I, hI⟩ : ∃ I, I = x1 % wd := ⟨_, rfl⟩
  have hRn : R < n := by rw [hR]; exact Nat.mod_lt _ (by omega)
  have hIw : I < wd := by rw [hI]; exact Nat.mod_lt _ (by omega)
  have f1 : (a : Int).tmod 9 = n0 := by rw [Int.tmod_eq_emod_of_nonneg (by omega)]; omega
  have f2 : (b : Int).tmod 40 = wd0 := by rw [Int.tmod_eq_emod_of_nonneg (by omega)]; omega
  have f3 : (a : Int) % 9 = n0 := by omega
  have f4 : (b : Int) % 40 = wd0 := by omega
  have f5 : (x0 : Int) % (n : Int) = R := by rw [hR]; rfl
  have f6 : (x1 : Int) % (wd : Int) = I := by rw [hI]; rfl
  have f7 : (x0 : Int).tmod (n : Int) = R := by rw [Int.tmod_eq_emod_of_nonneg (by omega)]; exact f5
  have f8 : (x1 : Int).tmod (wd : Int) = I := by rw [Int.tmod_eq_emod_of_nonneg (by omega)]; exact f6
  have f9 : (1 : Int) + (n0 : Int) = n := by omega
  have f10 : (1 : Int) + (wd0 : Int) = wd := by omega
  have hn9 : n ≤ 9 := by omega
  have hw9 : wd ≤ 40 := by omega
  have hz1 : ((n : Int) == 0) = false := by rw [beq_eq_false_iff_ne]; omega
  have hz2 : ((wd : Int) == 0) = false := by rw [beq_eq_false_iff_ne]; omega
  have hz3 : ¬ n = 0 := by omega
  have hz4 : ¬ wd = 0 := by omega
  have q1 : IntKind.i64.wrap (n0 : Int) = n0 := i64_wrap (by omega) (by omega)
  have q2 : IntKind.i64.wrap (wd0 : Int) = wd0 := i64_wrap (by omega) (by omega)
  have q3 : IntKind.u8.wrap (n0 : Int) = n0 := by simp [IntKind.wrap, IntKind.signed, IntKind.bits]; omega
  have q4 : IntKind.u8.wrap (wd0 : Int) = wd0 := by simp [IntKind.wrap, IntKind.signed, IntKind.bits]; omega
  have q5 : IntKind.i64.wrap (n : Int) = n := i64_wrap (by omega) (by omega)
  have q6 : IntKind.i64.wrap (wd : Int) = wd := i64_wrap (by omega) (by omega)
  have q7 : IntKind.i64.wrap (x0 : Int) = x0 := i64_wrap (by omega) (by omega)
  have q8 : IntKind.i64.wrap (x1 : Int) = x1 := i64_wrap (by omega) (by omega)
  have q9 : IntKind.i64.wrap (R : Int) = R := i64_wrap (by omega) (by omega)
  have q10 : IntKind.i64.wrap (I : Int) = I := i64_wrap (by omega) (by omega)
  have Hn := Lib.hid hn; have Hwd := Lib.hid hwd; have Hn0 := Lib.hid hn0; have Hwd0 := Lib.hid hwd0; have HR := Lib.hid hR; have HI := Lib.hid hI; have HS := Lib.hid hS; have HXS := Lib.hid hxS
  clear hn hwd hn0 hwd0 hR hI hS hxS
  go_enter Try.func8, Try.ntmps8
  go_wp2_with fail
  refine (works_any _).mono ?_
  rintro e w1 ⟨rfl, hb1⟩
  have hbx := ((Blk.new w #[.int .u8 a, .int .u8 b, u, v] 43 (0, 0)).alloc (.cells #[.int .u8 x0, .int .u8 x1] 50)).below hb1 (by simp; omega)
  have hby := (Blk.new (w.alloc (.cells #[.int .u8 a, .int .u8 b, u, v] 43)) #[.int .u8 x0, .int .u8 x1] 50 (0, 0)).below hb1 (by simp)
  rw [World.size_alloc] at hby
  have Hb1 := Lib.hid ((((Below.refl w.heap.size w).alloc (Nat.le_refl _) (.cells #[.int .u8 a, .int .u8 b, u, v] 43)).alloc (by simp) (.cells #[.int .u8 x0, .int .u8 x1] 50)).trans (hb1.mono (by simp; omega)))
  have c0 := hbx.cell 0
  have c1 := hbx.cell 1
  have c2 := hbx.cell 2
  change w1.cell? ⟨w.heap.size, 0, none⟩ = some (.int .u8 a) at c0
  change w1.cell? ⟨w.heap.size, 1, none⟩ = some (.int .u8 b) at c1
  change w1.cell? ⟨w.heap.size, 2, none⟩ = some u at c2
  have Hby := Lib.hid hby
  clear hb1 hbx hby
  go_wp2_with fail
  go_region_held3 (fun w' => w'.cell? ⟨w.heap.size, 0, none⟩ = some (.int .u8 a) ∧ w'.cell? ⟨w.heap.size, 1, none⟩ = some (.int .u8 b)) (exact ⟨c0, c1⟩) (fail)
  go_wp2_with fail
  refine (drawn_any n wd u S _ (by omega) (by omega) (HS.out.below Hb1.out.drew) HXS.out).mono ?_
  rintro e w2 ⟨p, g, l, rfl, hbt, hp, hg, hb2, hd⟩
  have Hby2 := Lib.hid (Hby.out.drew.below hb2 Hby.out.lt)
  have hlong := hbt.long; have hpad := hd.pad
  have Hbt := Lib.hid hbt; have Hb2 := Lib.hid (Hb1.out.drew.next' hb2); have Hlong := Lib.hid hlong; have Hpad := Lib.hid hpad
  clear hbt hb2 hlong hpad hd Hb1 Hby c0 c1 c2 f1 f2 f3 f4 f9 f10 q1 q2 q3 q4
  go_wp2_with fail
  refine (bytes_any p g n wd l _ Hbt.out).mono ?_
  rintro e w' ⟨rfl, rfl⟩
  go_wp2_with fail
  refine (from_yes n wd ⟨l.toArray⟩ _ (by omega) (by omega) Hbt.out.most' Hlong.out Hpad.out).mono ?_
  rintro e w3 ⟨p3, g3, rfl, hb3, hp3, hg3, hb⟩
  have H3 := Lib.hid hb3; have H1 := Lib.hid (Hbt.out.later hb); have HB := Lib.hid (Hb2.out.next' hb)
  have hw12 := Hb2.out.size
  have hby3 := Hby2.out.below hb Hby2.out.lt
  have hlp := Hbt.out.head.lt
  have hlg := Hbt.out.body.lt
  have d0 := hby3.cell 0
  have d1 := hby3.cell 1
  change w3.cell? ⟨w.heap.size + 1, 0, none⟩ = some (.int .u8 x0) at d0
  change w3.cell? ⟨w.heap.size + 1, 1, none⟩ = some (.int .u8 x1) at d1
  clear hb hb3 Hbt Hb2 Hby2 hby3
  go_wp2_with fail
  go_region_held3 (fun w' => w'.cell? ⟨w.heap.size + 1, 0, none⟩ = some (.int .u8 x0) ∧ w'.cell? ⟨w.heap.size + 1, 1, none⟩ = some (.int .u8 x1)) (exact ⟨d0, d1⟩) (fail)
  have hset : decide ((0 : Int) ≤ R ∧ (R : Int) < n ∧ (0 : Int) ≤ I ∧ (I : Int) < wd) = true := decide_eq_true (by omega)
  have C := Lib.hid (fun W h => set_any p3 g3 n wd l R I on W h)
  rw [hset] at C
  clear hset d0 d1 f5 f6 f7 f8 q5 q6 q7 q8 q9 q10 hz1 hz2 hz3 hz4
  go_wp2_with fail
  refine (C.out _ (H3.out.later ((Below.refl _ _).drew))).mono ?_
  rintro e w4 ⟨l', rfl, hbt, hk, hs, _⟩
  have hs' := hs (by omega)
  rw [Int.toNat_natCast, Int.toNat_natCast] at hs'
  have Hs := Lib.hid hs'
  have H4 := Lib.hid hbt
  have H1' := Lib.hid ((H1.out.later ((Below.refl _ _).drew)).kept hk (show ¬ p = g3 by omega) (show ¬ g = g3 by omega))
  have hk1 : Below w.heap.size w w4 := HB.out.drew.trans (hk.below (B := w.heap.size) HB.out.size (fun k hk => by omega))
  have HB4 := Lib.hid hk1
  clear hs hs' hbt hk hk1 C HB H1 H3
  go_wp2_with fail
  go_loopw [13, 14, 15] (fun r _ _ wr => ∃ (k : Nat), k ≤ n ∧ r = .int .i64 k ∧ Below w4.heap.size w4 wr) (fun r _ _ _ => n - (intOf r).toNat)
  case atStart => exact ⟨0, Nat.zero_le _, rfl, Below.refl _ _⟩
  case round =>
    obtain ⟨k, hk, rfl, hB⟩ := hrel
    have HBk := Lib.hid hB
    clear hB
    obtain ⟨wo, rfl⟩ : ∃ wo : World, wo = wr := ⟨_, rfl⟩
    by_cases hlt : k < n
    · go_wp2_with fail
      go_loopw [14, 15] (fun c _ wr => ∃ (i : Nat), i ≤ wd ∧ c = .int .i64 i ∧ Below w4.heap.size w4 wr) (fun c _ _ => wd - (intOf c).toNat)
      case atStart => exact ⟨0, Nat.zero_le _, rfl, HBk.out⟩
      case round =>
        clear HBk
        obtain ⟨i, hi, rfl, hB⟩ := hrel
        have HBk := Lib.hid hB
        clear hB
        by_cases hlt2 : i < wd
        · obtain ⟨x, hx⟩ : ∃ x, x = getB n wd l k i := ⟨_, rfl⟩
          have C1 : ∀ W, Below w4.heap.size w4 W → Calls Try.prog 23 #[.pointer (some ⟨p, 0, none⟩), .int .i64 k, .int .i64 i] W fun e w' => e = .returned (.bool x) ∧ Below W.heap.size W w' := fun W hW => by
            rw [hx]; exact get_any p g n wd l k i W (H1'.out.later hW)
          have hy : getB n wd l' k i = if k = R ∧ i = I then on else x := by
            rw [hx, Drawn.get hlt hlt2, Drawn.get hlt hlt2]; exact Hs.out.2 k hlt i (by omega)
          have HC1 := Lib.hid C1
          clear hx C1
          by_cases hkR : k = R
          · by_cases hiI : i = I
            · subst hkR hiI
              rw [if_pos ⟨rfl, rfl⟩] at hy
              have C2 : ∀ W, Below w4.heap.size w4 W → Calls Try.prog 23 #[.pointer (some ⟨p3, 0, none⟩), .int .i64 k, .int .i64 i] W fun e w' => e = .returned (.bool on) ∧ Below W.heap.size W w' := fun W hW => by
                rw [← hy]; exact get_any p3 g3 n wd l' k i W (H4.out.later hW)
              have HC2 := Lib.hid C2
              clear hy C2
              have hoo : (on != on) = false := by cases on <;> rfl
              go_wp2_with fail
              refine (HC1.out _ HBk.out).mono ?_; rintro e w5 ⟨rfl, hb5⟩
              have HB5 := Lib.hid (HBk.out.next' hb5)
              clear hb5
              go_wp2_with fail
              refine (HC2.out _ HB5.out).mono ?_; rintro e w6 ⟨rfl, hb6⟩
              have HB6 := Lib.hid (HB5.out.next' hb6)
              clear hb6
              go_wp2_with fail
              go_roundw
              case rel => exact ⟨i + 1, by omega, by go_num, HB6.out⟩
              case measure => simp [intOf]; omega
            · rw [if_neg (fun h => hiI h.2)] at hy
              have C2 : ∀ W, Below w4.heap.size w4 W → Calls Try.prog 23 #[.pointer (some ⟨p3, 0, none⟩), .int .i64 k, .int .i64 i] W fun e w' => e = .returned (.bool x) ∧ Below W.heap.size W w' := fun W hW => by
                rw [← hy]; exact get_any p3 g3 n wd l' k i W (H4.out.later hW)
              have HC2 := Lib.hid C2
              subst hkR
              have e1 : ((i : Int) == (I : Int)) = false := by rw [beq_eq_false_iff_ne]; omega
              have e2 : decide (i = I) = false := decide_eq_false hiI
              clear hy C2 hiI
              have hoo : (x != x) = false := by cases x <;> rfl
              go_wp2_with fail
              refine (HC1.out _ HBk.out).mono ?_; rintro e w5 ⟨rfl, hb5⟩
              have HB5 := Lib.hid (HBk.out.next' hb5)
              clear hb5
              go_wp2_with fail
              refine (HC2.out _ HB5.out).mono ?_; rintro e w6 ⟨rfl, hb6⟩
              have HB6 := Lib.hid (HB5.out.next' hb6)
              clear hb6
              go_wp2_with fail
              go_roundw
              case rel => exact ⟨i + 1, by omega, by go_num, HB6.out⟩
              case measure => simp [intOf]; omega
          · rw [if_neg (fun h => hkR h.1)] at hy
            have C2 : ∀ W, Below w4.heap.size w4 W → Calls Try.prog 23 #[.pointer (some ⟨p3, 0, none⟩), .int .i64 k, .int .i64 i] W fun e w' => e = .returned (.bool x) ∧ Below W.heap.size W w' := fun W hW => by
              rw [← hy]; exact get_any p3 g3 n wd l' k i W (H4.out.later hW)
            have HC2 := Lib.hid C2
            have e1 : ((k : Int) == (R : Int)) = false := by rw [beq_eq_false_iff_ne]; omega
            have e2 : decide (k = R) = false := decide_eq_false hkR
            clear hy C2 hkR
            have hoo : (x != x) = false := by cases x <;> rfl
            go_wp2_with fail
            refine (HC1.out _ HBk.out).mono ?_; rintro e w5 ⟨rfl, hb5⟩
            have HB5 := Lib.hid (HBk.out.next' hb5)
            clear hb5
            go_wp2_with fail
            refine (HC2.out _ HB5.out).mono ?_; rintro e w6 ⟨rfl, hb6⟩
            have HB6 := Lib.hid (HB5.out.next' hb6)
            clear hb6
            go_wp2_with fail
            go_roundw
            case rel => exact ⟨i + 1, by omega, by go_num, HB6.out⟩
            case measure => simp [intOf]; omega
        · obtain rfl : i = wd := by omega
          go_wp2_with fail
          go_roundw
          case rel => exact ⟨k + 1, by omega, by go_num, HBk.out⟩
          case measure => simp [intOf]; omega
    · go_wp2_with fail
      go_ret
      exact ⟨rfl, HB4.out.next' HBk.out⟩
/-- a reading of two bytes -/
theorem Rd.two {w : World} {cs : Array Value} (h : Rd Try.prog w 50 cs.toList) : ∃ (a b : Nat), cs = #[.int .u8 a, .int .u8 b] ∧ a < 256 ∧ b < 256 := by
  have hu := Try.underlying50
  have hl := (Rd.array hu h).1
  have hc : Try.prog.cellsOf 50 = 2 := by kernel_rfl
  have c8 : Try.prog.cellsOf 5 = 1 := by kernel_rfl
  rw [hc] at hl
  obtain ⟨l⟩ := cs
  match l, hl with
  | [c0, c1], _ =>
    obtain ⟨x0, e0, h0⟩ := Rd.int Try.underlying5 (Rd.elem hu h 0 (by omega) c8 rfl : Rd _ _ _ [c0])
    obtain ⟨x1, e1, h1⟩ := Rd.int Try.underlying5 (Rd.elem hu h 1 (by omega) c8 rfl : Rd _ _ _ [c1])
    have w8 : ∀ x : Int, (Lit.int .u8 x).wf = true → 0 ≤ x ∧ x < 256 := fun x hx => by
      have : 0 ≤ x ∧ x ≤ 255 := by simpa [Lit.wf, IntKind.min, IntKind.max, IntKind.signed, IntKind.bits] using hx
      omega
    obtain ⟨a, rfl⟩ := Int.eq_ofNat_of_zero_le (w8 _ h0).1
    obtain ⟨b, rfl⟩ := Int.eq_ofNat_of_zero_le (w8 _ h1).1
    have ha := (w8 _ h0).2
    have hb := (w8 _ h1).2
    obtain rfl : c0 = .int .u8 (a : Int) := by simpa using e0
    obtain rfl : c1 = .int .u8 (b : Int) := by simpa using e1
    exact ⟨a, b, rfl, by omega, by omega⟩
theorem lawBitsAlone_any (cs xs : Array Value) (on : Bool) (w : World) (h : Rd Try.prog w 43 cs.toList) (hx : Rd Try.prog w 50 xs.toList) :
    Calls Try.prog 8 #[.agg cs, .agg xs, .bool on] w fun e w' => e = .returned (.bool true) ∧ Below w.heap.size w w' := by
  obtain ⟨a, b, u, v, S, T, rfl, ha, hb, hS, hT, hxS, hxT⟩ := Rd.drawn h
  obtain ⟨x0, x1, rfl, h0, h1⟩ := Rd.two hx
  exact bitsAlone_any a b x0 x1 ha hb h0 h1 on u v S w hS hxS
end Go.Proofs.Ytcnpldeehbleeaa
