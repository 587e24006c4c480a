/- octet's laws: an item is read by both; the reference's End. -/
import Derived.Test.YtaikcehdomaebaaDoorOctItem
namespace Go.Proofs.YtaikcehdomaebaaDoor
open Go.RowKit
theorem blk_type {w : World} {g : Nat} {c c' : Array Value} {t t' : TypeId} {f f' : Nat × Nat} (h : Blk w g c t f) (h' : Blk w g c' t' f') : t = t' := by
  have e := Option.some.inj (Eq.trans (Eq.symm h) h')
  cases e
  rfl
/-- both readers, in one state -/
structure RP (w0 w : World) (q q2 : Nat) (R : RS) : Prop where
  ro : Ro true w q R
  rf : Rf w q2 R
  h1 : w0.heap.size ≤ q
  h2 : w0.heap.size ≤ q2
  ok : R.ok
  bel : Below w0.heap.size w0 w
section
variable {w0 w w' : World} {q q2 : Nat} {R R' : RS}
theorem RP.later (h : RP w0 w q q2 R) (hb : Below w.heap.size w w') : RP w0 w' q q2 R := ⟨h.ro.later hb, h.rf.later hb, h.h1, h.h2, h.ok, h.bel.next' hb⟩
theorem RP.ne (h : RP w0 w q q2 R) : q ≠ q2 := fun e => by
  obtain ⟨fp, hb⟩ := h.ro.blk
  obtain ⟨⟨c, i, hb2, _⟩, _, _⟩ := h.rf
  subst e
  exact absurd (blk_type hb hb2) (by decide)
/-- the program's reader has gone on -/
structure RP1 (w0 w : World) (q q2 : Nat) (R R' : RS) : Prop where
  ro : Ro true w q R'
  rf : Rf w q2 R
  h1 : w0.heap.size ≤ q
  h2 : w0.heap.size ≤ q2
  bel : Below w0.heap.size w0 w
theorem RP.on (h : RP w0 w q q2 R) (ho : RoOn true w q R' w') : RP1 w0 w' q q2 R R' := by
  have hn := h.ne
  exact ⟨ho.1, h.rf.agree (ho.2.block q2 h.rf.lt (fun e => hn e.symm)), h.h1, h.h2, h.bel.trans (ho.2.below h.bel.size (fun k hk => by rw [hk]; exact h.h1))⟩
theorem RP1.on (h : RP1 w0 w q q2 R R') (hok : R'.ok) (ho : RfOn w q2 R' w') : RP w0 w' q q2 R' := by
  obtain ⟨⟨c, i, hb, _⟩, _, _⟩ := h.rf
  have hn : q ≠ q2 := fun e => by
    obtain ⟨fp, hb1⟩ := h.ro.blk
    subst e
    exact absurd (blk_type hb1 hb) (by decide)
  exact ⟨h.ro.other hb hn (by decide) ho.2, ho.1, h.h1, h.h2, hok, h.bel.trans (ho.2.below h.bel.size (fun k hk => by rw [hk]; exact h.h2))⟩
end
/-- behind an item -/
def itR (R : RS) (x : It) : RS :=
  if x.1 % 5 = 0 then (R.num 1).2 else if x.1 % 5 = 1 then (R.num 4).2 else if x.1 % 5 = 2 then (R.num 8).2 else if x.1 % 5 = 3 then (R.num 8).2 else (R.take (((x.2.1 % 12 : Nat) : Int) - 1)).2
theorem itR_s (R : RS) (x : It) : (itR R x).s = R.s := by
  unfold itR RS.num
  repeat' split
  all_goals
    show (R.take _).2.s = R.s
    unfold RS.take
    repeat' split
    all_goals rfl
theorem itR_ok {R : RS} (h : R.ok) (x : It) : (itR R x).ok := by
  unfold itR
  repeat' split
  all_goals first | exact RS.ok_num h _ | exact RS.ok_take h _
set_option maxHeartbeats 4000000 in
theorem read_item (w0 w : World) (q q2 : Nat) (R : RS) (x : It) (hx : itOk x) (h : RP w0 w q q2 R) :
    Calls Tryd.prog 28 #[itV x, .pointer (some ⟨q, 0, none⟩), .pointer (some ⟨q2, 0, none⟩)] w fun e w' => e = .returned (.bool true) ∧ RP w0 w' q q2 (itR R x) := by
  have hok := itR_ok h.ok x
  obtain ⟨a, n, s⟩ := x
  obtain ⟨ha, hn, hs⟩ := hx
  simp only at ha hn hs
  have hbx := Blk.new w #[.int .u8 (a : Nat), .int .u64 (n : Nat), .string s] 54 (0, 0)
  have hH := h.later ((Below.refl w.heap.size w).alloc (Nat.le_refl _) (.cells #[.int .u8 (a : Nat), .int .u64 (n : Nat), .string s] 54))
  have H := Lib.hid hH; have HX := Lib.hid hbx; have HOk := Lib.hid hok
  obtain ⟨a5, ha5⟩ : ∃ a5, a5 = a % 5 := ⟨_, rfl⟩
  have f1 : (a : Int).tmod 5 = (a5 : Int) := by rw [Int.tmod_eq_emod_of_nonneg (by omega), ha5]; rfl
  have f2 : (a : Int) % 5 = (a5 : Int) := by rw [ha5]; rfl
  have f3 : IntKind.u8.wrap (a5 : Int) = a5 := by simp [IntKind.wrap, IntKind.signed, IntKind.bits]; omega
  have hB : itR R (a, n, s) = if a5 = 0 then (R.num 1).2 else if a5 = 1 then (R.num 4).2 else if a5 = 2 then (R.num 8).2 else if a5 = 3 then (R.num 8).2 else (R.take (((n % 12 : Nat) : Int) - 1)).2 := by rw [ha5]; rfl
  have hc := mod5 a
  rw [← ha5] at hc
  clear ha5 hbx hH h hok
  show Calls Tryd.prog 28 #[.agg #[.int .u8 (a : Nat), .int .u64 (n : Nat), .string s], .pointer (some ⟨q, 0, none⟩), .pointer (some ⟨q2, 0, none⟩)] w _
  generalize itR R (a, n, s) = R' at *
  rcases hc with rfl | rfl | rfl | rfl | rfl
  · have HB : Hid ((R.num 1).2 = R') := Lib.hid (by rw [hB]; simp)
    clear hB
    obtain ⟨m, hm⟩ : ∃ m, (R.num 1).1 = m := ⟨_, rfl⟩
    have hmb : m < 256 := by rw [← hm]; exact RS.num_lt R 1
    have Hm := Lib.hid hm
    clear hm
    go_enter Tryd.func28, Tryd.ntmps28
    go_wp2_with fail
    refine (rU8_is H.out.ro Hm.out HB.out).mono ?_
    rintro e w1 ⟨rfl, ho⟩
    have H1 := Lib.hid (H.out.on ho)
    clear ho H
    go_wp2_with fail
    refine (refNum_any q2 R 1 (by decide) w1 H1.out.rf).mono ?_
    rw [Hm.out, HB.out]
    rintro e w2 ⟨rfl, ho⟩
    have H2 := Lib.hid (H1.out.on HOk.out ho)
    clear ho H1
    go_wp2_with fail
    go_ret
    exact ⟨rfl, H2.out⟩
  · have HB : Hid ((R.num 4).2 = R') := Lib.hid (by rw [hB]; simp)
    clear hB
    obtain ⟨m, hm⟩ : ∃ m, (R.num 4).1 = m := ⟨_, rfl⟩
    have hmb : m < 4294967296 := by rw [← hm]; exact RS.num_lt R 4
    have Hm := Lib.hid hm
    clear hm
    go_enter Tryd.func28, Tryd.ntmps28
    go_wp2_with fail
    refine (rU32_is H.out.ro Hm.out HB.out).mono ?_
    rintro e w1 ⟨rfl, ho⟩
    have H1 := Lib.hid (H.out.on ho)
    clear ho H
    go_wp2_with fail
    refine (refNum_any q2 R 4 (by decide) w1 H1.out.rf).mono ?_
    rw [Hm.out, HB.out]
    rintro e w2 ⟨rfl, ho⟩
    have H2 := Lib.hid (H1.out.on HOk.out ho)
    clear ho H1
    go_wp2_with fail
    go_ret
    exact ⟨rfl, H2.out⟩
  · have HB : Hid ((R.num 8).2 = R') := Lib.hid (by rw [hB]; simp)
    clear hB
    obtain ⟨m, hm⟩ : ∃ m, (R.num 8).1 = m := ⟨_, rfl⟩
    have hmb : m < 18446744073709551616 := by rw [← hm]; exact RS.num_lt R 8
    have Hm := Lib.hid hm
    clear hm
    go_enter Tryd.func28, Tryd.ntmps28
    go_wp2_with fail
    refine (rU64_is H.out.ro Hm.out HB.out).mono ?_
    rintro e w1 ⟨rfl, ho⟩
    have H1 := Lib.hid (H.out.on ho)
    clear ho H
    go_wp2_with fail
    refine (refNum_any q2 R 8 (by decide) w1 H1.out.rf).mono ?_
    rw [Hm.out, HB.out]
    rintro e w2 ⟨rfl, ho⟩
    have H2 := Lib.hid (H1.out.on HOk.out ho)
    clear ho H1
    go_wp2_with fail
    go_ret
    exact ⟨rfl, H2.out⟩
  · have HB : Hid ((R.num 8).2 = R') := Lib.hid (by rw [hB]; simp)
    clear hB
    obtain ⟨m, hm⟩ : ∃ m, (R.num 8).1 = m := ⟨_, rfl⟩
    have hmb : m < 18446744073709551616 := by rw [← hm]; exact RS.num_lt R 8
    have Hm := Lib.hid hm
    clear hm
    go_enter Tryd.func28, Tryd.ntmps28
    go_wp2_with fail
    refine (rI64_is H.out.ro (wrap64 (m : Nat)) (by rw [Hm.out]) HB.out).mono ?_
    rintro e w1 ⟨rfl, ho⟩
    have H1 := Lib.hid (H.out.on ho)
    clear ho H
    go_wp2_with fail
    refine (refNum_any q2 R 8 (by decide) w1 H1.out.rf).mono ?_
    rw [Hm.out, HB.out]
    rintro e w2 ⟨rfl, ho⟩
    have H2 := Lib.hid (H1.out.on HOk.out ho)
    clear ho H1
    go_wp2_with fail
    go_ret
    exact ⟨rfl, H2.out⟩
  · have HB : Hid ((R.take (((n % 12 : Nat) : Int) - 1)).2 = R') := Lib.hid (by rw [hB]; simp)
    clear hB
    obtain ⟨k, hk⟩ : ∃ k : Int, k = ((n % 12 : Nat) : Int) - 1 := ⟨_, rfl⟩
    rw [← hk] at HB
    have hkb : k ≤ 9223372036854775807 := by omega
    obtain ⟨b, hb⟩ : ∃ b, (R.take k).1 = b := ⟨_, rfl⟩
    have Hb := Lib.hid hb
    obtain ⟨r, hr⟩ : ∃ r, r = n % 12 := ⟨_, rfl⟩
    have g1 : (n : Int) % 12 = (r : Int) := by rw [hr]; rfl
    have g2 : (n : Int).tmod 12 = (r : Int) := by rw [Int.tmod_eq_emod_of_nonneg (by omega), hr]; rfl
    have g3 : IntKind.u64.wrap (r : Int) = r := by rw [n64_wrap, n64_nat _ (by omega)]
    have g4 : IntKind.i64.wrap (r : Int) = r := wrap_small _ (by omega) (by omega)
    have g5 : (r : Int) - 1 = k := by rw [hk, hr]
    have g6 : IntKind.i64.wrap k = k := IntWalk.i64_in _ (by omega)
    have hr12 : r < 12 := by omega
    clear hb hr hk
    go_enter Tryd.func28, Tryd.ntmps28
    go_wp2_with fail
    refine (rText_is H.out.ro k hkb Hb.out HB.out).mono ?_
    rintro e w1 ⟨rfl, ho⟩
    have H1 := Lib.hid (H.out.on ho)
    clear ho H
    go_wp2_with fail
    refine (refTake_any q2 R k w1 H1.out.rf hkb).mono ?_
    rw [Hb.out, HB.out]
    rintro e w2 ⟨rfl, ho⟩
    have H2 := Lib.hid (H1.out.on HOk.out ho)
    clear ho H1
    go_wp2_with fail
    go_ret
    exact ⟨rfl, H2.out⟩
/-- what the reference tells at the end -/
theorem refEnd_any (q : Nat) (R : RS) (w : World) (h : Rf w q R) :
    Calls Tryd.prog 29 #[.pointer (some ⟨q, 0, none⟩)] w fun e w' => e = .returned (.agg #[.int .i64 R.endF.1, .int .i64 0, .int .i64 (R.endF.2 : Nat), .int .i64 0]) ∧ Below w.heap.size w w' := by
  obtain ⟨⟨c, i, hb, hci⟩, hle, hsz⟩ := id h
  have c0 := hb.cell 0; have c1 := hb.cell 1; have c2 := hb.cell 2; have c3 := hb.cell 3; have c4 := hb.cell 4; have c5 := hb.cell 5
  change w.cell? ⟨q, 0, none⟩ = some (.string R.s) at c0
  change w.cell? ⟨q, 1, none⟩ = some (.int .i64 R.at_) at c1
  change w.cell? ⟨q, 2, none⟩ = some (.int .i64 c) at c2
  change w.cell? ⟨q, 3, none⟩ = some (.int .i64 0) at c3
  change w.cell? ⟨q, 4, none⟩ = some (.int .i64 (i : Nat)) at c4
  change w.cell? ⟨q, 5, none⟩ = some (.int .i64 0) at c5
  have hql := hb.lt
  obtain ⟨w1, hw1⟩ : ∃ w1, w1 = w.alloc (.cells #[.int .i64 0, .int .i64 0, .int .i64 0, .int .i64 0] 42) := ⟨_, rfl⟩
  have hbr : Blk w1 w.heap.size #[.int .i64 0, .int .i64 0, .int .i64 0, .int .i64 0] 42 (0, 0) := by rw [hw1]; exact Blk.new _ _ _ _
  have hbel : Below w.heap.size w w1 := by rw [hw1]; exact (Below.refl _ _).alloc (Nat.le_refl _) _
  have ho : ∀ k, w1.cell? ⟨q, k, none⟩ = w.cell? ⟨q, k, none⟩ := fun k => World.cell?_of_block (hbel.block q hql)
  rw [← ho 0] at c0; rw [← ho 1] at c1; rw [← ho 2] at c2; rw [← ho 3] at c3; rw [← ho 4] at c4; rw [← ho 5] at c5
  have r0 := hbr.cell 0; have r1 := hbr.cell 1; have r2 := hbr.cell 2; have r3 := hbr.cell 3
  change w1.cell? ⟨w.heap.size, 0, none⟩ = some (.int .i64 0) at r0
  change w1.cell? ⟨w.heap.size, 1, none⟩ = some (.int .i64 0) at r1
  change w1.cell? ⟨w.heap.size, 2, none⟩ = some (.int .i64 0) at r2
  change w1.cell? ⟨w.heap.size, 3, none⟩ = some (.int .i64 0) at r3
  have fr := fun i => hbr.free i (Or.inr (Nat.zero_le _))
  have f0 := fr 0; have f1 := fr 1; have f2 := fr 2; have f3 := fr 3
  have hfin : ∀ (u : World), (∃ n, u = w1.drewN n) → ∀ a b : Int, Blk ((((u.setCell ⟨w.heap.size, 0, none⟩ (.int .i64 a)).setCell ⟨w.heap.size, 1, none⟩ (.int .i64 0)).setCell ⟨w.heap.size, 2, none⟩ (.int .i64 b)).setCell ⟨w.heap.size, 3, none⟩ (.int .i64 0)) w.heap.size #[.int .i64 a, .int .i64 0, .int .i64 b, .int .i64 0] 42 (0, 0) ∧
      Below w.heap.size w ((((u.setCell ⟨w.heap.size, 0, none⟩ (.int .i64 a)).setCell ⟨w.heap.size, 1, none⟩ (.int .i64 0)).setCell ⟨w.heap.size, 2, none⟩ (.int .i64 b)).setCell ⟨w.heap.size, 3, none⟩ (.int .i64 0)) := by
    rintro u ⟨n, rfl⟩ a b
    have hb' : Blk (w1.drewN n) w.heap.size #[.int .i64 0, .int .i64 0, .int .i64 0, .int .i64 0] 42 (0, 0) := hbr
    have hl' : Below w.heap.size w (w1.drewN n) := ⟨hbel.os, hbel.tape, hbel.output, hbel.size, hbel.block⟩
    exact ⟨(((hb'.set 0 (.int .i64 a)).set 1 (.int .i64 0)).set 2 (.int .i64 b)).set 3 (.int .i64 0),
      (((hl'.setCell (p := ⟨w.heap.size, 0, none⟩) (Nat.le_refl _) _).setCell (p := ⟨w.heap.size, 1, none⟩) (Nat.le_refl _) _).setCell (p := ⟨w.heap.size, 2, none⟩) (Nat.le_refl _) _).setCell (p := ⟨w.heap.size, 3, none⟩) (Nat.le_refl _) _⟩
  have HF := Lib.hid hfin; have HW1 := Lib.hid hw1
  obtain ⟨e1, e2, he⟩ : ∃ e1 e2, R.endF = (e1, e2) := ⟨_, _, rfl⟩
  rw [he]
  simp only
  have hqne : ¬ q = w.heap.size := by omega
  have hqne' : ¬ w.heap.size = q := by omega
  rcases hci with ⟨hf, rfl, rfl⟩ | ⟨hf, hc⟩
  · by_cases hat : R.at_ < R.s.size
    · obtain ⟨rfl, rfl⟩ : e1 = 4 ∧ e2 = R.at_ := by
        unfold RS.endF at he
        rw [hf] at he
        simp only at he
        rw [if_neg (by omega)] at he
        exact ⟨(congrArg Prod.fst he).symm, (congrArg Prod.snd he).symm⟩
      clear he hf h hb hbr hbel ho fr hfin
      go_enter Tryd.func29, Tryd.ntmps29
      go_wp2_with fail
      rw [← HW1.out]
      clear hw1
      go_quiet (fail)
      obtain ⟨hz1, hz2⟩ := HF.out _ ⟨nq, rfl⟩ (4) ((R.at_ : Nat))
      go_wp2_with fail
      generalize ((((w1.drewN nq).setCell ⟨w.heap.size, 0, none⟩ (.int .i64 (4))).setCell ⟨w.heap.size, 1, none⟩ (.int .i64 0)).setCell ⟨w.heap.size, 2, none⟩ (.int .i64 ((R.at_ : Nat)))).setCell ⟨w.heap.size, 3, none⟩ (.int .i64 0) = wz at *
      have z0 := hz1.cell 0; have z1 := hz1.cell 1; have z2 := hz1.cell 2; have z3 := hz1.cell 3
      change wz.cell? ⟨w.heap.size, 0, none⟩ = some (.int .i64 (4)) at z0
      change wz.cell? ⟨w.heap.size, 1, none⟩ = some (.int .i64 0) at z1
      change wz.cell? ⟨w.heap.size, 2, none⟩ = some (.int .i64 ((R.at_ : Nat))) at z2
      change wz.cell? ⟨w.heap.size, 3, none⟩ = some (.int .i64 0) at z3
      exact bodyPost_ret (v := .agg #[.int .i64 (4), .int .i64 0, .int .i64 ((R.at_ : Nat)), .int .i64 0]) (by simp [results, Tryd.results29, go_sem, z0, z1, z2, z3]) rfl ⟨rfl, hz2⟩
    · obtain ⟨rfl, rfl⟩ : e1 = 0 ∧ e2 = 0 := by
        unfold RS.endF at he
        rw [hf] at he
        simp only at he
        rw [if_pos (by omega)] at he
        exact ⟨(congrArg Prod.fst he).symm, (congrArg Prod.snd he).symm⟩
      clear he hf h hb hbr hbel ho fr hfin
      go_enter Tryd.func29, Tryd.ntmps29
      go_wp2_with fail
      rw [← HW1.out]
      clear hw1
      go_quiet (fail)
      obtain ⟨hz1, hz2⟩ := HF.out _ ⟨nq, rfl⟩ (0) (((0 : Nat) : Int))
      go_wp2_with fail
      generalize ((((w1.drewN nq).setCell ⟨w.heap.size, 0, none⟩ (.int .i64 (0))).setCell ⟨w.heap.size, 1, none⟩ (.int .i64 0)).setCell ⟨w.heap.size, 2, none⟩ (.int .i64 (((0 : Nat) : Int)))).setCell ⟨w.heap.size, 3, none⟩ (.int .i64 0) = wz at *
      have z0 := hz1.cell 0; have z1 := hz1.cell 1; have z2 := hz1.cell 2; have z3 := hz1.cell 3
      change wz.cell? ⟨w.heap.size, 0, none⟩ = some (.int .i64 (0)) at z0
      change wz.cell? ⟨w.heap.size, 1, none⟩ = some (.int .i64 0) at z1
      change wz.cell? ⟨w.heap.size, 2, none⟩ = some (.int .i64 (((0 : Nat) : Int))) at z2
      change wz.cell? ⟨w.heap.size, 3, none⟩ = some (.int .i64 0) at z3
      exact bodyPost_ret (v := .agg #[.int .i64 (0), .int .i64 0, .int .i64 (((0 : Nat) : Int)), .int .i64 0]) (by simp [results, Tryd.results29, go_sem, z0, z1, z2, z3]) rfl ⟨rfl, hz2⟩
  · obtain ⟨rfl, rfl⟩ : e1 = c ∧ e2 = i := by
      unfold RS.endF at he
      rw [hf] at he
      exact ⟨(congrArg Prod.fst he).symm, (congrArg Prod.snd he).symm⟩
    have hcz : (e1 == 0) = false := by rw [beq_eq_false_iff_ne]; exact hc
    clear he hf h hb hbr hbel ho fr hfin hc
    go_enter Tryd.func29, Tryd.ntmps29
    go_wp2_with fail
    rw [← HW1.out]
    clear hw1
    go_quiet (fail)
    obtain ⟨hz1, hz2⟩ := HF.out _ ⟨nq, rfl⟩ (e1) ((e2 : Nat))
    go_wp2_with fail
    generalize ((((w1.drewN nq).setCell ⟨w.heap.size, 0, none⟩ (.int .i64 (e1))).setCell ⟨w.heap.size, 1, none⟩ (.int .i64 0)).setCell ⟨w.heap.size, 2, none⟩ (.int .i64 ((e2 : Nat)))).setCell ⟨w.heap.size, 3, none⟩ (.int .i64 0) = wz at *
    have z0 := hz1.cell 0; have z1 := hz1.cell 1; have z2 := hz1.cell 2; have z3 := hz1.cell 3
    change wz.cell? ⟨w.heap.size, 0, none⟩ = some (.int .i64 (e1)) at z0
    change wz.cell? ⟨w.heap.size, 1, none⟩ = some (.int .i64 0) at z1
    change wz.cell? ⟨w.heap.size, 2, none⟩ = some (.int .i64 ((e2 : Nat))) at z2
    change wz.cell? ⟨w.heap.size, 3, none⟩ = some (.int .i64 0) at z3
    exact bodyPost_ret (v := .agg #[.int .i64 (e1), .int .i64 0, .int .i64 ((e2 : Nat)), .int .i64 0]) (by simp [results, Tryd.results29, go_sem, z0, z1, z2, z3]) rfl ⟨rfl, hz2⟩
end Go.Proofs.YtaikcehdomaebaaDoor
