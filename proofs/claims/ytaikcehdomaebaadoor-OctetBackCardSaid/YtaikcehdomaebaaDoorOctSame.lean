/- OctetBack: an item is read, and is the same. -/
import Derived.Test.YtaikcehdomaebaaDoorOctItem
import Derived.Test.YtaikcehdomaebaaDoorOctPlain
import Derived.Test.YtaikcehdomaebaaDoorOctKnown
import Derived.Deep.RegionHeld3
namespace Go.Proofs.YtaikcehdomaebaaDoor
open Go.RowKit
theorem ownsRow_agree {w w' : World} {base : Nat} {e : TypeId} {size : Nat} {v : Value} {n : Nat} {xs : List Value} (h : w.ownsRow base e size v n xs) (hb : ∀ k, v.ownBlock = some k → w'.heap[k]? = w.heap[k]?) : w'.ownsRow base e size v n xs := by
  refine ⟨h.1, ?_⟩
  rcases h.2 with h0 | ⟨g, cap, cur, rfl, h1, h2, h3⟩
  · exact .inl h0
  · exact .inr ⟨g, cap, cur, rfl, h1, (hb g (by simp [Value.ownBlock])).trans h2, h3⟩
theorem ownsRow_blk {w : World} {base : Nat} {e : TypeId} {size : Nat} {v : Value} {n : Nat} {xs : List Value} (h : w.ownsRow base e size v n xs) {g : Nat} (hg : v.ownBlock = some g) : base ≤ g ∧ ∃ cur, Blk w g cur e (0, 0) := by
  rcases h.2 with ⟨rfl, _⟩ | ⟨g', cap, cur, rfl, h1, h2, _⟩
  · cases hg
  · obtain rfl : g' = g := by simpa [Value.ownBlock] using hg
    exact ⟨h1, cur, h2⟩
theorem ownsRow_kept {w w' : World} {B : Nat} {e : TypeId} {s : Nat} {v : Value} {n q : Nat} {xs : List Value} {cs : Array Value} {t : TypeId} {fr : Nat × Nat} (h : w.ownsRow B e s v n xs) (hq : Blk w q cs t fr) (hne : e ≠ t) (hk : Kept (· = q) w w') : w'.ownsRow B e s v n xs := by
  refine ownsRow_agree h fun k hk' => ?_
  obtain ⟨_, cur, hb⟩ := ownsRow_blk h hk'
  refine hk.block k hb.lt (fun ek => ?_)
  subst ek
  have e2 := Option.some.inj (Eq.trans (Eq.symm hb) hq)
  cases e2
  exact hne rfl
theorem ownsRow_later {w w' : World} {B : Nat} {e : TypeId} {s : Nat} {v : Value} {n : Nat} {xs : List Value} (h : w.ownsRow B e s v n xs) (hb : Below w.heap.size w w') : w'.ownsRow B e s v n xs :=
  ownsRow_agree h fun _ hk => by obtain ⟨_, cur, hbl⟩ := ownsRow_blk h hk; exact hb.block _ hbl.lt
/-- a reader of our own, and a row of ends -/
structure E2 (w0 w : World) (q : Nat) (R : RS) (v : Value) (n : Nat) (xs : List Value) : Prop where
  ro : Ro true w q R
  h : w0.heap.size ≤ q
  bel : Below w0.heap.size w0 w
  en : w.ownsRow w0.heap.size 3 1 v n xs
theorem E2.later {w0 w w' : World} {q n : Nat} {R : RS} {v : Value} {xs : List Value} (h : E2 w0 w q R v n xs) (hb : Below w.heap.size w w') : E2 w0 w' q R v n xs := ⟨h.ro.later hb, h.h, h.bel.next' hb, ownsRow_later h.en hb⟩
theorem E2.on {w0 w w' : World} {q n : Nat} {R R' : RS} {v : Value} {xs : List Value} (h : E2 w0 w q R v n xs) (ho : RoOn true w q R' w') : E2 w0 w' q R' v n xs := by
  obtain ⟨fp, hb⟩ := h.ro.blk
  exact ⟨ho.1, h.h, h.bel.trans (ho.2.below h.bel.size (fun k hk => by rw [hk]; exact h.h)), ownsRow_kept h.en hb (by decide) ho.2⟩
/-- the reader behind an item -/
def itS (R : RS) (x : It) : RS :=
  if x.1 % 5 = 0 then (R.num 1).2 else if x.1 % 5 = 1 then (R.num 4).2 else if x.1 % 5 = 2 then (R.num 8).2 else if x.1 % 5 = 3 then (R.num 8).2 else (R.take ((min x.2.2.size 40 : Nat) : Int)).2
/-- what was read is the item's -/
def itG (R : RS) (x : It) : Prop :=
  if x.1 % 5 = 0 then (R.num 1).1 = x.2.1 % 256 else if x.1 % 5 = 1 then (R.num 4).1 = x.2.1 % 4294967296 else if x.1 % 5 = 2 then (R.num 8).1 = x.2.1 else if x.1 % 5 = 3 then (R.num 8).1 = x.2.1 else (R.take ((min x.2.2.size 40 : Nat) : Int)).1 = x.2.2.extract 0 (min x.2.2.size 40)
set_option maxHeartbeats 4000000 in
theorem same_any (w0 w : World) (q : Nat) (R : RS) (x : It) (hx : itOk x) {v : Value} {nn : Nat} {xs : List Value} (h : E2 w0 w q R v nn xs) :
    Calls Tryd.prog 30 #[itV x, .pointer (some ⟨q, 0, none⟩)] w fun e w' => ∃ b, e = .returned (.bool b) ∧ (itG R x → b = true) ∧ E2 w0 w' q (itS R x) v nn xs := by
  obtain ⟨a, n, s⟩ := x
  obtain ⟨ha, hn, hs⟩ := hx
  simp only at ha hn hs
  have hqg : ¬ q = w.heap.size := by have := h.ro.lt; omega
  have hbx := Blk.new w #[.int .u8 (a : Nat), .int .u64 (n : Nat), .string s] 54 (0, 0)
  have hH := h.later ((Below.refl w.heap.size w).alloc (Nat.le_refl _) (.cells #[.int .u8 (a : Nat), .int .u64 (n : Nat), .string s] 54))
  have H := Lib.hid hH; have HX := Lib.hid hbx; have HQ := Lib.hid hqg
  obtain ⟨a5, ha5⟩ : ∃ a5, a5 = a % 5 := ⟨_, rfl⟩
  have f1 : (a : Int).tmod 5 = (a5 : Int) := by rw [Int.tmod_eq_emod_of_nonneg (by omega), ha5]; rfl
  have f2 : (a : Int) % 5 = (a5 : Int) := by rw [ha5]; rfl
  have f3 : IntKind.u8.wrap (a5 : Int) = a5 := by simp [IntKind.wrap, IntKind.signed, IntKind.bits]; omega
  have hB : itS R (a, n, s) = if a5 = 0 then (R.num 1).2 else if a5 = 1 then (R.num 4).2 else if a5 = 2 then (R.num 8).2 else if a5 = 3 then (R.num 8).2 else (R.take ((min s.size 40 : Nat) : Int)).2 := by rw [ha5]; rfl
  have hG : itG R (a, n, s) = if a5 = 0 then (R.num 1).1 = n % 256 else if a5 = 1 then (R.num 4).1 = n % 4294967296 else if a5 = 2 then (R.num 8).1 = n else if a5 = 3 then (R.num 8).1 = n else (R.take ((min s.size 40 : Nat) : Int)).1 = s.extract 0 (min s.size 40) := by rw [ha5]; rfl
  have hc := mod5 a
  rw [← ha5] at hc
  clear ha5 hbx hH h hqg
  show Calls Tryd.prog 30 #[.agg #[.int .u8 (a : Nat), .int .u64 (n : Nat), .string s], .pointer (some ⟨q, 0, none⟩)] w _
  generalize itS R (a, n, s) = R' at *
  generalize itG R (a, n, s) = G at *
  obtain ⟨wb, hwb⟩ : ∃ wb, wb = w.alloc (.cells #[.int .u8 (a : Nat), .int .u64 (n : Nat), .string s] 54) := ⟨_, rfl⟩
  rw [← hwb] at H HX
  have HWb := Lib.hid hwb
  have c0 := HX.out.cell 0; have c1 := HX.out.cell 1; have c2 := HX.out.cell 2
  change wb.cell? ⟨w.heap.size, 0, none⟩ = some (.int .u8 (a : Nat)) at c0
  change wb.cell? ⟨w.heap.size, 1, none⟩ = some (.int .u64 (n : Nat)) at c1
  change wb.cell? ⟨w.heap.size, 2, none⟩ = some (.string s) at c2
  clear hwb
  rcases hc with rfl | rfl | rfl | rfl | rfl
  · have HB : Hid ((R.num 1).2 = R') := Lib.hid (by rw [hB]; simp)
    have HG : Hid (G = ((R.num 1).1 = n % 256)) := Lib.hid (by rw [hG]; simp)
    clear hB hG
    obtain ⟨m, hm⟩ : ∃ m, (R.num 1).1 = m := ⟨_, rfl⟩
    have hmb : m < 256 := by rw [← hm]; exact RS.num_lt R 1
    have Hm := Lib.hid hm
    have HR : Hid (Ro true wb.drew q R) := Lib.hid (H.out.ro.later (Below.refl _ _).drew)
    have HD := Lib.hid (H.out.later (Below.refl wb.heap.size wb).drew)
    clear hm
    go_enter Tryd.func30, Tryd.ntmps30
    go_wp2_with fail
    rw [← HWb.out]
    go_wp2_with fail
    go_region_held3 (fun w' => w'.cell? ⟨w.heap.size, 1, none⟩ = some (.int .u64 (n : Nat)))
      (first | exact (World.cell?_of_block (HO.out.2.block w.heap.size HX.out.lt (fun e => HQ.out e.symm))).trans c1 | exact c1)
      ((go_at_call 22; (with_reducible refine (rU8_is HR.out Hm.out HB.out).mono ?_); rintro e w' ⟨rfl, ho⟩; have HO := Lib.hid ho))
    go_wp2_with fail
    go_ret
    refine ⟨_, rfl, fun hg => ?_, HD.out.on HO.out⟩
    rw [HG.out, Hm.out] at hg
    simp [hg, IntKind.wrap, IntKind.signed, IntKind.bits]
  · have HB : Hid ((R.num 4).2 = R') := Lib.hid (by rw [hB]; simp)
    have HG : Hid (G = ((R.num 4).1 = n % 4294967296)) := Lib.hid (by rw [hG]; simp)
    clear hB hG
    obtain ⟨m, hm⟩ : ∃ m, (R.num 4).1 = m := ⟨_, rfl⟩
    have hmb : m < 4294967296 := by rw [← hm]; exact RS.num_lt R 4
    have Hm := Lib.hid hm
    have HR : Hid (Ro true wb.drew q R) := Lib.hid (H.out.ro.later (Below.refl _ _).drew)
    have HD := Lib.hid (H.out.later (Below.refl wb.heap.size wb).drew)
    clear hm
    go_enter Tryd.func30, Tryd.ntmps30
    go_wp2_with fail
    rw [← HWb.out]
    go_wp2_with fail
    go_region_held3 (fun w' => w'.cell? ⟨w.heap.size, 1, none⟩ = some (.int .u64 (n : Nat)))
      (first | exact (World.cell?_of_block (HO.out.2.block w.heap.size HX.out.lt (fun e => HQ.out e.symm))).trans c1 | exact c1)
      ((go_at_call 14; (with_reducible refine (rU32_is HR.out Hm.out HB.out).mono ?_); rintro e w' ⟨rfl, ho⟩; have HO := Lib.hid ho))
    go_wp2_with fail
    go_ret
    refine ⟨_, rfl, fun hg => ?_, HD.out.on HO.out⟩
    rw [HG.out, Hm.out] at hg
    simp [hg, IntKind.wrap, IntKind.signed, IntKind.bits]
  · have HB : Hid ((R.num 8).2 = R') := Lib.hid (by rw [hB]; simp)
    have HG : Hid (G = ((R.num 8).1 = n)) := Lib.hid (by rw [hG]; simp)
    clear hB hG
    obtain ⟨m, hm⟩ : ∃ m, (R.num 8).1 = m := ⟨_, rfl⟩
    have hmb : m < 18446744073709551616 := by rw [← hm]; exact RS.num_lt R 8
    have Hm := Lib.hid hm
    have HR : Hid (Ro true wb.drew q R) := Lib.hid (H.out.ro.later (Below.refl _ _).drew)
    have HD := Lib.hid (H.out.later (Below.refl wb.heap.size wb).drew)
    clear hm
    go_enter Tryd.func30, Tryd.ntmps30
    go_wp2_with fail
    rw [← HWb.out]
    go_wp2_with fail
    go_region_held3 (fun w' => w'.cell? ⟨w.heap.size, 1, none⟩ = some (.int .u64 (n : Nat)))
      (first | exact (World.cell?_of_block (HO.out.2.block w.heap.size HX.out.lt (fun e => HQ.out e.symm))).trans c1 | exact c1)
      ((go_at_call 15; (with_reducible refine (rU64_is HR.out Hm.out HB.out).mono ?_); rintro e w' ⟨rfl, ho⟩; have HO := Lib.hid ho))
    go_wp2_with fail
    go_ret
    refine ⟨_, rfl, fun hg => ?_, HD.out.on HO.out⟩
    rw [HG.out, Hm.out] at hg
    simp [hg]
  · have HB : Hid ((R.num 8).2 = R') := Lib.hid (by rw [hB]; simp)
    have HG : Hid (G = ((R.num 8).1 = n)) := Lib.hid (by rw [hG]; simp)
    clear hB hG
    obtain ⟨m, hm⟩ : ∃ m, (R.num 8).1 = m := ⟨_, rfl⟩
    have hmb : m < 18446744073709551616 := by rw [← hm]; exact RS.num_lt R 8
    have Hm := Lib.hid hm
    have HR : Hid (Ro true wb.drew q R) := Lib.hid (H.out.ro.later (Below.refl _ _).drew)
    have HD := Lib.hid (H.out.later (Below.refl wb.heap.size wb).drew)
    clear hm
    go_enter Tryd.func30, Tryd.ntmps30
    go_wp2_with fail
    rw [← HWb.out]
    go_wp2_with fail
    go_region_held3 (fun w' => w'.cell? ⟨w.heap.size, 1, none⟩ = some (.int .u64 (n : Nat)))
      (first | exact (World.cell?_of_block (HO.out.2.block w.heap.size HX.out.lt (fun e => HQ.out e.symm))).trans c1 | exact c1)
      ((go_at_call 26; (with_reducible refine (rI64_is HR.out (wrap64 (m : Nat)) (by rw [Hm.out]) HB.out).mono ?_); rintro e w' ⟨rfl, ho⟩; have HO := Lib.hid ho))
    go_wp2_with fail
    go_ret
    refine ⟨_, rfl, fun hg => ?_, HD.out.on HO.out⟩
    rw [HG.out, Hm.out] at hg
    simp [hg, wrap64, IntKind.wrap, IntKind.signed, IntKind.bits]
    split <;> omega
  · have HB : Hid ((R.take ((min s.size 40 : Nat) : Int)).2 = R') := Lib.hid (by rw [hB]; simp)
    have HG : Hid (G = ((R.take ((min s.size 40 : Nat) : Int)).1 = s.extract 0 (min s.size 40))) := Lib.hid (by rw [hG]; simp)
    clear hB hG
    obtain ⟨m, hm⟩ : ∃ m, m = min s.size 40 := ⟨_, rfl⟩
    rw [← hm] at HB HG
    have hmin := fun u => run_min2 (P := Tryd.prog) s.size 40 u #[3, 3] 3 (m : Int) (by omega)
    have q1 : (0 : Int) ≤ (m : Int) := by omega
    have q2 : (m : Int) ≤ (s.size : Int) := by omega
    have hz : min m s.size = m := by omega
    obtain ⟨T, hT⟩ : ∃ T, (R.take (m : Int)).1 = T := ⟨_, rfl⟩
    have HT := Lib.hid hT; have HZ := Lib.hid hz
    have hm40 : m ≤ 40 := by omega
    clear hm hz hT
    go_enter Tryd.func30, Tryd.ntmps30
    go_wp2_with fail
    rw [← HWb.out]
    go_wp2_with fail
    rw [HZ.out]
    refine (rText_is H.out.ro (m : Int) (by omega) HT.out HB.out).mono ?_
    rintro e w' ⟨rfl, ho⟩
    have HO := Lib.hid ho
    clear ho
    go_wp2_with fail
    go_ret
    refine ⟨_, rfl, fun hg => ?_, H.out.on HO.out⟩
    rw [HG.out, HT.out] at hg
    simp [hg]
end Go.Proofs.YtaikcehdomaebaaDoor
