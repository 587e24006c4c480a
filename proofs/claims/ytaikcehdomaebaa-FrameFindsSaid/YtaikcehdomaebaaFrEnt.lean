/- THE WALKS over frame: need, entries (an iterator that may panic). -/
import Derived.Test.YtaikcehdomaebaaRangePan
import Derived.Test.YtaikcehdomaebaaHeldIn
import Derived.Test.YtaikcehdomaebaaOctWU
namespace Go.Proofs.Ytaikcehdomaebaa
open Go.RowKit Go.Shelf
attribute [local go_sem] Oper.semAt_some
/-- what an entry of a head is: kind, length, sum -/
abbrev En := Nat × Nat × Nat
def RS.ent (R : RS) : En × RS := (((R.num 1).1, ((R.num 1).2.num 8).1, (((R.num 1).2.num 8).2.num 4).1), (((R.num 1).2.num 8).2.num 4).2)
def RS.ents (R : RS) : Nat → List En × RS
  | 0 => ([], R)
  | k + 1 => ((R.ents k).1 ++ [(R.ents k).2.ent.1], (R.ents k).2.ent.2)
theorem RS.ents_length (R : RS) (k : Nat) : (R.ents k).1.length = k := by
  induction k with
  | zero => rfl
  | succ k ih => show (_ ++ [_]).length = _; rw [List.length_append, ih]; rfl
def firstB : ByteArray := ⟨#[77, 73, 76, 69, 49, 1]⟩
/-- what a head says, if it may -/
def RS.head (R : RS) : Option (List En × RS) := if (R.take 6).1 = firstB then (if ((R.take 6).2.num 1).1 ≤ 16 then some (((R.take 6).2.num 1).2.ents ((R.take 6).2.num 1).1) else none) else none
def errCh (c : Int) : List PanicEntry := [{ v := .iface 24 (.int .i64 c), recovered := false }]
theorem need_yes (c : Int) (w : World) : Calls Try.prog 43 #[.bool true, .int .i64 c] w fun e w' => (∃ v, e = .returned v) ∧ w = w' := by
  go_enter Try.func43, Try.ntmps43
  go_wp2
  go_end0
  exact ⟨⟨_, rfl⟩, rfl⟩
theorem need_no (c : Int) (w : World) : Calls Try.prog 43 #[.bool false, .int .i64 c] w fun e w' => e = .panicked (errCh c) ∧ w = w' := by
  go_enter Try.func43, Try.ntmps43
  go_wp2
  exact ⟨rfl, rfl, rfl⟩
def encE (x : En) : Array Value := #[.agg #[.int .i64 (x.1 : Nat), .int .u64 (x.2.1 : Nat), .int .u32 (x.2.2 : Nat)]]
/-- blocks lie as they lay, but those of entries, and of rows of them -/
structure KpT (W W' : World) : Prop where
  size : W.heap.size ≤ W'.heap.size
  block : ∀ (k : Nat) (cs : Array Value) (t : TypeId) (fr : Nat × Nat), W.heap[k]? = some (Obj.cells cs t fr) → t ≠ 83 → t ≠ 88 → W'.heap[k]? = W.heap[k]?
theorem KpT.trans {A B C : World} (h : KpT A B) (k : KpT B C) : KpT A C :=
  ⟨Nat.le_trans h.size k.size, fun i cs t fr hi h1 h2 => by have e := h.block i cs t fr hi h1 h2; exact (k.block i cs t fr (e.trans hi) h1 h2).trans e⟩
theorem KpT.blk {W W' : World} (h : KpT W W') {b : Nat} {cs : Array Value} {t : TypeId} {fr : Nat × Nat} (hb : Blk W b cs t fr) (h1 : t ≠ 83 := by decide) (h2 : t ≠ 88 := by decide) : Blk W' b cs t fr := (h.block b cs t fr hb h1 h2).trans hb
theorem KpT.ro {fu : Bool} {W W' : World} (h : KpT W W') {q : Nat} {R : RS} (hr : Ro fu W q R) : Ro fu W' q R := by
  obtain ⟨⟨fp, h1, h2, h3⟩, hl, hs⟩ := hr
  exact ⟨⟨fp, h.blk h1, h2, fun c i hf => by obtain ⟨b, e, e2⟩ := h3 c i hf; exact ⟨b, e, fun hfu => ⟨(e2 hfu).1, h.blk (e2 hfu).2⟩⟩⟩, hl, hs⟩
set_option maxRecDepth 100000 in
set_option maxHeartbeats 4000000 in
theorem entries1_in (m : Nat) (hm : 1 ≤ m) (L Br fr q : Nat) (R0 : RS) (s : ByteArray) (J : List En → World → Prop) (hJ : ∀ s A B, J s A → Kept (· = q) A B → J s B)
    (hY : ∀ pre x W, J pre W → pre.length < 17 → YieldAt Fence.wide (m - 1) Try.prog L (encE x) W fun e W' => e = .returned (.bool true) ∧ J (pre ++ [x]) W' ∧ KpT W W')
    (W : World) (hro : Ro true W q R0) (hBr : Blk W Br #[.pointer (some ⟨fr, 0, none⟩)] 59 (0, 0)) (hfr : Blk W fr #[.pointer (some ⟨q, 0, none⟩), .string s] 63 (0, 0))
    (hqb : Br ≠ q) (hqf : fr ≠ q) (h0 : J [] W) :
    CallsIn Fence.wide m Try.prog 49 #[.func (.yield L) #[] #[], .pointer (some ⟨Br, 0, none⟩)] W fun e W' =>
      (∃ v xs, e = .returned v ∧ (∃ R', R0.head = some (xs, R') ∧ Ro true W' q R') ∧ J xs W') ∨ (∃ ch xs, e = .panicked ch ∧ (ch = errCh 23 ∧ R0.head = none) ∧ J xs W') := by
  have c1 := hBr.cell 0
  have c2 := hfr.cell 0
  change W.cell? ⟨Br, 0, none⟩ = some (.pointer (some ⟨fr, 0, none⟩)) at c1
  change W.cell? ⟨fr, 0, none⟩ = some (.pointer (some ⟨q, 0, none⟩)) at c2
  obtain ⟨l6, hl6⟩ : ∃ l : List UInt8, (R0.take 6).1 = ⟨l.toArray⟩ := ⟨(R0.take 6).1.data.toList, by cases (R0.take 6).1; simp⟩
  have C6 := Lib.hid (rText_any true q R0 6 W hro (by decide))
  rw [hl6] at C6
  refine callsIn_of_wp Try.func49 rfl trivial ?_ rfl
  simp only [Try.ntmps49, List.size_toArray, List.length_cons, List.length_nil, Nat.reduceAdd, Nat.reduceSub, Array.replicate_succ, Array.replicate_zero, List.push_toArray, List.append_toArray, List.nil_append, List.cons_append]
  gi_wp2_with (refine ⟨trivial, ?_⟩; gi_at_call 46; refine (callsIn_wide.2 C6.out).mono ?_; rintro e w1 ⟨rfl, hon⟩)
  have J1 := hJ _ _ _ h0 hon.2
  have b1 := hon.2.blk hBr hqb
  have b2 := hon.2.blk hfr hqf
  by_cases e6 : l6 ≠ [77, 73, 76, 69, 49, 1]
  · have kb : (l6 == [77, 73, 76, 69, 49, 1]) = false := by simpa using e6
    rw [kb]
    refine ⟨trivial, (callsIn_wide.2 (need_no 23 _)).mono ?_⟩
    rintro e w2 ⟨rfl, rfl⟩
    refine ⟨rfl, Or.inr ⟨_, [], rfl, ⟨rfl, ?_⟩, J1⟩⟩
    unfold RS.head firstB
    rw [hl6, if_neg (fun h => e6 (by simpa using congrArg (fun b : ByteArray => b.data.toList) h))]
  replace e6 := Decidable.not_not.1 e6
  have kh : R0.head = if ((R0.take 6).2.num 1).1 ≤ 16 then some (((R0.take 6).2.num 1).2.ents ((R0.take 6).2.num 1).1) else none := by
    unfold RS.head firstB
    rw [hl6, if_pos (by rw [e6])]
  have kb : (l6 == [77, 73, 76, 69, 49, 1]) = true := by simpa using e6
  rw [kb]
  refine ⟨trivial, (callsIn_wide.2 (need_yes 23 _)).mono ?_⟩
  rintro e w2 ⟨⟨v, rfl⟩, rfl⟩
  have hn1 := (R0.take 6).2.num_lt 1
  have C8 := Lib.hid (rU8_any true q (R0.take 6).2 w1 hon.1)
  obtain ⟨many, hmany⟩ : ∃ n, ((R0.take 6).2.num 1).1 = n := ⟨_, rfl⟩
  obtain ⟨R1, hR1⟩ : ∃ n, ((R0.take 6).2.num 1).2 = n := ⟨_, rfl⟩
  rw [hmany, hR1] at C8 kh
  rw [hmany] at hn1
  have hmw : IntKind.i64.wrap (many : Int) = many := wrap_small _ (by omega) (by omega)
  have J1' := Lib.hid J1
  have b1' := Lib.hid b1; have b2' := Lib.hid b2
  have d1 := b1.cell 0
  have d2 := b2.cell 0
  change w1.cell? ⟨Br, 0, none⟩ = some (.pointer (some ⟨fr, 0, none⟩)) at d1
  change w1.cell? ⟨fr, 0, none⟩ = some (.pointer (some ⟨q, 0, none⟩)) at d2
  clear hro hBr hfr h0 J1 b1 b2 c1 c2 C6 hon
  have kh' := Lib.hid kh
  clear kh kb hl6 hmany hR1 e6
  gi_wp2_with (refine ⟨trivial, ?_⟩; gi_at_call 50; refine (callsIn_wide.2 C8.out).mono ?_; rintro e w3 ⟨rfl, hon⟩)
  have J3 := hJ _ _ _ J1'.out hon.2
  have b1 := hon.2.blk b1'.out hqb
  have b2 := hon.2.blk b2'.out hqf
  by_cases h16 : ¬ many ≤ 16
  · have kb : decide ((many : Int) ≤ 16) = false := decide_eq_false (by omega)
    rw [kb]
    refine ⟨trivial, (callsIn_wide.2 (need_no 23 _)).mono ?_⟩
    rintro e w2 ⟨rfl, rfl⟩
    exact ⟨rfl, Or.inr ⟨_, [], rfl, ⟨rfl, by rw [kh'.out, if_neg h16]⟩, J3⟩⟩
  replace h16 := Decidable.not_not.1 h16
  have kb : decide ((many : Int) ≤ 16) = true := decide_eq_true (by omega)
  rw [kb]
  refine ⟨trivial, (callsIn_wide.2 (need_yes 23 _)).mono ?_⟩
  rintro e w2 ⟨⟨v2, rfl⟩, rfl⟩
  have kh : R0.head = some (R1.ents many) := by rw [kh'.out, if_pos h16]
  clear kb kh' J1' b1' b2' d1 d2 C8 hmw hn1
  have kh' := Lib.hid kh
  clear kh
  gi_wp2_with fail
  gi_loopw [21] (fun i wr => ∃ (k : Nat), k ≤ many ∧ i = .int .i64 k ∧ Ro true wr q (R1.ents k).2 ∧ Blk wr Br #[.pointer (some ⟨fr, 0, none⟩)] 59 (0, 0) ∧ Blk wr fr #[.pointer (some ⟨q, 0, none⟩), .string s] 63 (0, 0) ∧ J (R1.ents k).1 wr) (fun i _ => many - (intOf i).toNat)
  case atStart => exact ⟨0, Nat.zero_le _, rfl, hon.1, b1, b2, J3⟩
  case round =>
    obtain ⟨k, hk, rfl, hr, h1, h2, hJk⟩ := hrel
    have d1 := h1.cell 0
    have d2 := h2.cell 0
    change wr.cell? ⟨Br, 0, none⟩ = some (.pointer (some ⟨fr, 0, none⟩)) at d1
    change wr.cell? ⟨fr, 0, none⟩ = some (.pointer (some ⟨q, 0, none⟩)) at d2
    by_cases hlt : ¬ k < many
    · obtain rfl : k = many := by omega
      gi_wp2_with fail
      go_end0
      exact Or.inl ⟨_, _, rfl, ⟨_, kh'.out, hr⟩, hJk⟩
    replace hlt := Decidable.not_not.1 hlt
    gi_wp2_with fail
    have hS0 : wr.drew.cell? ⟨Br, 0, none⟩ = some (.pointer (some ⟨fr, 0, none⟩)) ∧ wr.drew.cell? ⟨fr, 0, none⟩ = some (.pointer (some ⟨q, 0, none⟩)) := ⟨d1, d2⟩
    refine region_heldIn (S := fun w' => w'.cell? ⟨Br, 0, none⟩ = some (.pointer (some ⟨fr, 0, none⟩)) ∧ w'.cell? ⟨fr, 0, none⟩ = some (.pointer (some ⟨q, 0, none⟩))) rfl ?_
    change heldIn _ _ _ _ _ _ 20 _ _ wr.drew
    (refine heldIn_takeD (i := 0) (v := (.func (.yield L) #[] #[])) rfl rfl rfl (by kernel_rfl) (by kernel_rfl) (by kernel_rfl) (fun _ _ _ h => h) ⟨by rfl, fun w hS => ⟨by rfl, by obtain ⟨hS1, hS2⟩ := hS; go_simp⟩⟩ (by assumption) ?_; try simp only [List.setIfInBounds_toArray, List.set_cons_zero, List.set_cons_succ])
    (refine heldIn_takeD (i := 1) (v := (.pointer (some ⟨fr, 0, none⟩))) rfl rfl rfl (by kernel_rfl) (by kernel_rfl) (by kernel_rfl) (fun _ _ _ h => h) ⟨by rfl, fun w hS => ⟨by rfl, by obtain ⟨hS1, hS2⟩ := hS; go_simp⟩⟩ (by assumption) ?_; try simp only [List.setIfInBounds_toArray, List.set_cons_zero, List.set_cons_succ])
    (refine heldIn_takeD (i := 2) (v := (.pointer (some ⟨fr, 0, none⟩))) rfl rfl rfl (by kernel_rfl) (by kernel_rfl) (by kernel_rfl) (fun _ _ _ h => h) ⟨by rfl, fun w hS => ⟨by rfl, by obtain ⟨hS1, hS2⟩ := hS; go_simp⟩⟩ (by assumption) ?_; try simp only [List.setIfInBounds_toArray, List.set_cons_zero, List.set_cons_succ])
    (refine heldIn_takeD (i := 3) (v := (.pointer (some ⟨fr, 0, none⟩))) rfl rfl rfl (by kernel_rfl) (by kernel_rfl) (by kernel_rfl) (fun _ _ _ h => h) ⟨by rfl, fun w hS => ⟨by rfl, by obtain ⟨hS1, hS2⟩ := hS; go_simp⟩⟩ (by assumption) ?_; try simp only [List.setIfInBounds_toArray, List.set_cons_zero, List.set_cons_succ])
    (refine heldIn_takeD (i := 4) (v := (.pointer (some ⟨q, 0, none⟩))) rfl rfl rfl (by kernel_rfl) (by kernel_rfl) (by kernel_rfl) (fun _ _ _ h => h) ⟨by rfl, fun w hS => ⟨by rfl, by obtain ⟨hS1, hS2⟩ := hS; go_simp⟩⟩ (by assumption) ?_; try simp only [List.setIfInBounds_toArray, List.set_cons_zero, List.set_cons_succ])
    (refine heldIn_takeD (i := 7) (v := (.pointer (some ⟨fr, 0, none⟩))) rfl rfl rfl (by kernel_rfl) (by kernel_rfl) (by kernel_rfl) (fun _ _ _ h => h) ⟨by rfl, fun w hS => ⟨by rfl, by obtain ⟨hS1, hS2⟩ := hS; go_simp⟩⟩ (by assumption) ?_; try simp only [List.setIfInBounds_toArray, List.set_cons_zero, List.set_cons_succ])
    (refine heldIn_takeD (i := 8) (v := (.pointer (some ⟨fr, 0, none⟩))) rfl rfl rfl (by kernel_rfl) (by kernel_rfl) (by kernel_rfl) (fun _ _ _ h => h) ⟨by rfl, fun w hS => ⟨by rfl, by obtain ⟨hS1, hS2⟩ := hS; go_simp⟩⟩ (by assumption) ?_; try simp only [List.setIfInBounds_toArray, List.set_cons_zero, List.set_cons_succ])
    (refine heldIn_takeD (i := 9) (v := (.pointer (some ⟨fr, 0, none⟩))) rfl rfl rfl (by kernel_rfl) (by kernel_rfl) (by kernel_rfl) (fun _ _ _ h => h) ⟨by rfl, fun w hS => ⟨by rfl, by obtain ⟨hS1, hS2⟩ := hS; go_simp⟩⟩ (by assumption) ?_; try simp only [List.setIfInBounds_toArray, List.set_cons_zero, List.set_cons_succ])
    (refine heldIn_takeD (i := 10) (v := (.pointer (some ⟨q, 0, none⟩))) rfl rfl rfl (by kernel_rfl) (by kernel_rfl) (by kernel_rfl) (fun _ _ _ h => h) ⟨by rfl, fun w hS => ⟨by rfl, by obtain ⟨hS1, hS2⟩ := hS; go_simp⟩⟩ (by assumption) ?_; try simp only [List.setIfInBounds_toArray, List.set_cons_zero, List.set_cons_succ])
    (refine heldIn_takeD (i := 12) (v := (.pointer (some ⟨fr, 0, none⟩))) rfl rfl rfl (by kernel_rfl) (by kernel_rfl) (by kernel_rfl) (fun _ _ _ h => h) ⟨by rfl, fun w hS => ⟨by rfl, by obtain ⟨hS1, hS2⟩ := hS; go_simp⟩⟩ (by assumption) ?_; try simp only [List.setIfInBounds_toArray, List.set_cons_zero, List.set_cons_succ])
    (refine heldIn_takeD (i := 13) (v := (.pointer (some ⟨fr, 0, none⟩))) rfl rfl rfl (by kernel_rfl) (by kernel_rfl) (by kernel_rfl) (fun _ _ _ h => h) ⟨by rfl, fun w hS => ⟨by rfl, by obtain ⟨hS1, hS2⟩ := hS; go_simp⟩⟩ (by assumption) ?_; try simp only [List.setIfInBounds_toArray, List.set_cons_zero, List.set_cons_succ])
    (refine heldIn_takeD (i := 14) (v := (.pointer (some ⟨fr, 0, none⟩))) rfl rfl rfl (by kernel_rfl) (by kernel_rfl) (by kernel_rfl) (fun _ _ _ h => h) ⟨by rfl, fun w hS => ⟨by rfl, by obtain ⟨hS1, hS2⟩ := hS; go_simp⟩⟩ (by assumption) ?_; try simp only [List.setIfInBounds_toArray, List.set_cons_zero, List.set_cons_succ])
    (refine heldIn_takeD (i := 15) (v := (.pointer (some ⟨q, 0, none⟩))) rfl rfl rfl (by kernel_rfl) (by kernel_rfl) (by kernel_rfl) (fun _ _ _ h => h) ⟨by rfl, fun w hS => ⟨by rfl, by obtain ⟨hS1, hS2⟩ := hS; go_simp⟩⟩ (by assumption) ?_; try simp only [List.setIfInBounds_toArray, List.set_cons_zero, List.set_cons_succ])
    refine heldIn_one (i := 5) (by kernel_rfl) ?_
    obtain ⟨Ra, hRa⟩ : ∃ x, x = (R1.ents k).2 := ⟨_, rfl⟩
    rw [← hRa] at hr
    have hn8 := Ra.num_lt 1
    have hmw : IntKind.i64.wrap ((Ra.num 1).1 : Int) = ((Ra.num 1).1 : Int) := wrap_small _ (by omega) (by omega)
    obtain ⟨pre, hpre⟩ : ∃ x, x = (R1.ents k).1 := ⟨_, rfl⟩
    rw [← hpre] at hJk
    have hpl : pre.length < 17 := by rw [hpre, RS.ents_length]; omega
    have hRa' := Lib.hid hRa; have hpre' := Lib.hid hpre
    clear hRa hpre
    have Jd := hJ _ _ _ hJk ((Kept.refl (· = q) wr).drew)
    have g1 := h1.drew
    have g2 := h2.drew
    refine wpOpIn_calls (f := 50) (args := #[.pointer (some ⟨q, 0, none⟩)]) rfl rfl (by rfl) (by go_simp) hm (callsIn_wide.2 (rU8_any true q Ra wr.drew (hr.later ((Below.refl _ _).drew)))) ?_ (by rintro _ _ ⟨h, _⟩; cases h) (by rintro _ ⟨h, _⟩; cases h)
    rintro _ wa ⟨⟨rfl⟩, hra, hka⟩
    replace g1 := hka.blk g1 hqb
    replace g2 := hka.blk g2 hqf
    replace Jd := hJ _ _ _ Jd hka
    refine ⟨⟨g1.cell 0, g2.cell 0⟩, ?_⟩
    have hSa : wa.cell? ⟨Br, 0, none⟩ = some (.pointer (some ⟨fr, 0, none⟩)) ∧ wa.cell? ⟨fr, 0, none⟩ = some (.pointer (some ⟨q, 0, none⟩)) := ⟨g1.cell 0, g2.cell 0⟩
    simp only [List.setIfInBounds_toArray, List.set_cons_zero, List.set_cons_succ]
    (refine heldIn_takeD (i := 6) (v := (.int .i64 ((Ra.num 1).1 : Nat))) rfl rfl rfl (by kernel_rfl) (by kernel_rfl) (by kernel_rfl) (fun _ _ _ h => h) ⟨by rfl, fun w hS => ⟨by rfl, by obtain ⟨hS1, hS2⟩ := hS; go_simp⟩⟩ (by assumption) ?_; try simp only [List.setIfInBounds_toArray, List.set_cons_zero, List.set_cons_succ])
    refine heldIn_one (i := 11) (by kernel_rfl) ?_
    refine wpOpIn_calls (f := 51) (args := #[.pointer (some ⟨q, 0, none⟩)]) rfl rfl (by rfl) (by go_simp) hm (callsIn_wide.2 (rU64_any true q (Ra.num 1).2 wa hra)) ?_ (by rintro _ _ ⟨h, _⟩; cases h) (by rintro _ ⟨h, _⟩; cases h)
    rintro _ wb ⟨⟨rfl⟩, hrb, hkb⟩
    replace g1 := hkb.blk g1 hqb
    replace g2 := hkb.blk g2 hqf
    replace Jd := hJ _ _ _ Jd hkb
    refine ⟨⟨g1.cell 0, g2.cell 0⟩, ?_⟩
    simp only [List.setIfInBounds_toArray, List.set_cons_zero, List.set_cons_succ]
    refine heldIn_one (i := 16) (by kernel_rfl) ?_
    refine wpOpIn_calls (f := 42) (args := #[.pointer (some ⟨q, 0, none⟩)]) rfl rfl (by rfl) (by go_simp) hm (callsIn_wide.2 (rU32_any true q ((Ra.num 1).2.num 8).2 wb hrb)) ?_ (by rintro _ _ ⟨h, _⟩; cases h) (by rintro _ ⟨h, _⟩; cases h)
    rintro _ wc ⟨⟨rfl⟩, hrc, hkc⟩
    replace g1 := hkc.blk g1 hqb
    replace g2 := hkc.blk g2 hqf
    replace Jd := hJ _ _ _ Jd hkc
    have hSc : wc.cell? ⟨Br, 0, none⟩ = some (.pointer (some ⟨fr, 0, none⟩)) ∧ wc.cell? ⟨fr, 0, none⟩ = some (.pointer (some ⟨q, 0, none⟩)) := ⟨g1.cell 0, g2.cell 0⟩
    refine ⟨hSc, ?_⟩
    simp only [List.setIfInBounds_toArray, List.set_cons_zero, List.set_cons_succ]
    (refine heldIn_takeD (i := 17) (v := (.agg #[.int .i64 ((Ra.num 1).1 : Nat), .int .u64 (((Ra.num 1).2.num 8).1 : Nat), .int .u32 ((((Ra.num 1).2.num 8).2.num 4).1 : Nat)])) rfl rfl rfl (by kernel_rfl) (by kernel_rfl) (by kernel_rfl) (fun _ _ _ h => h) ⟨by rfl, fun w hS => ⟨by rfl, by obtain ⟨hS1, hS2⟩ := hS; go_simp⟩⟩ (by assumption) ?_; try simp only [List.setIfInBounds_toArray, List.set_cons_zero, List.set_cons_succ])
    refine heldIn_one (i := 18) (by kernel_rfl) ?_
    obtain ⟨fn, tmps, assign, body, hy, hR⟩ := hY pre Ra.ent.1 wc Jd hpl
    dsimp only [encE, RS.ent] at hy
    refine wpOpIn_round rfl rfl (by rfl) (by go_simp) hm hR ?_ (by rintro _ _ ⟨h, _⟩; cases h) (by rintro _ ⟨h, _⟩; cases h)
    rintro _ wd ⟨⟨rfl⟩, hJd, hkd⟩
    replace g1 : Blk wd Br #[.pointer (some ⟨fr, 0, none⟩)] 59 (0, 0) := hkd.blk g1
    replace g2 : Blk wd fr #[.pointer (some ⟨q, 0, none⟩), .string s] 63 (0, 0) := hkd.blk g2
    have hrd := hkd.ro hrc
    have hSd : wd.cell? ⟨Br, 0, none⟩ = some (.pointer (some ⟨fr, 0, none⟩)) ∧ wd.cell? ⟨fr, 0, none⟩ = some (.pointer (some ⟨q, 0, none⟩)) := ⟨g1.cell 0, g2.cell 0⟩
    refine ⟨hSd, ?_⟩
    simp only [List.setIfInBounds_toArray, List.set_cons_zero, List.set_cons_succ]
    (refine heldIn_takeD (i := 19) (v := (.bool false)) rfl rfl rfl (by kernel_rfl) (by kernel_rfl) (by kernel_rfl) (fun _ _ _ h => h) ⟨by rfl, fun w hS => ⟨by rfl, by obtain ⟨hS1, hS2⟩ := hS; go_simp⟩⟩ (by assumption) ?_; try simp only [List.setIfInBounds_toArray, List.set_cons_zero, List.set_cons_succ])
    refine heldIn_done (by kernel_rfl) ?_ _
    have e1 : (R1.ents (k + 1)).1 = pre ++ [Ra.ent.1] := by rw [hpre'.out, hRa'.out]; rfl
    have e2 : (R1.ents (k + 1)).2 = Ra.ent.2 := by rw [hRa'.out]; rfl
    rw [← e1] at hJd
    have hre : Ro true wd q (R1.ents (k + 1)).2 := by rw [e2]; exact hrd
    clear hra hrb hrc hkb hka hkc hkd Jd hSa hSc hSd hy hR hr hmw hn8 e1 e2 hS0 d1 d2
    gi_wp2_with fail
    go_roundw
    case rel => exact ⟨k + 1, by omega, by go_num, hre, g1, g2, hJd⟩
    case measure => simp [intOf]; omega
end Go.Proofs.Ytaikcehdomaebaa
