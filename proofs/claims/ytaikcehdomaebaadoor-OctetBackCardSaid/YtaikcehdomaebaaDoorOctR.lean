/- THE WALKS over octet, II: the reader: Read, take, get, At, Left, Err. -/
import Derived.Test.YtaikcehdomaebaaDoorOctW
import Derived.StillTailTactics
import Derived.Deep.QuietTactic
import Derived.BigQuiet
namespace Go.Proofs.YtaikcehdomaebaaDoor
open Go.RowKit
/-- a reader's state: the bytes, the place, what is wrong (its code, its place) -/
structure RS where
  s : ByteArray
  at_ : Nat
  f : Option (Int × Nat)
/-- a reader at q is in a state (fu: what its fault holds, too) -/
structure Ro (fu : Bool) (w : World) (q : Nat) (R : RS) : Prop where
  ex : ∃ fp : Option Addr, Blk w q #[.string R.s, .int .i64 R.at_, .pointer fp] 76 (0, 0) ∧ (R.f = none → fp = none) ∧ (∀ c i, R.f = some (c, i) → ∃ b, fp = some ⟨b, 0, none⟩ ∧ (fu = true → b ≠ q ∧ Blk w b #[.int .i64 c, .int .i64 0, .int .i64 (i : Nat), .int .i64 0] 42 (0, 0)))
  le : R.at_ ≤ R.s.size
  sz : R.s.size ≤ 140737488355328
/-- the next n bytes -/
def RS.take (R : RS) (n : Int) : ByteArray × RS :=
  if R.f.isSome then (⟨#[]⟩, R)
  else if n < 0 then (⟨#[]⟩, { R with f := some (2, R.at_) })
  else if (R.s.size : Int) - R.at_ < n then (⟨#[]⟩, { R with f := some (3, R.at_) })
  else (R.s.extract R.at_ (R.at_ + n.toNat), { R with at_ := R.at_ + n.toNat })
theorem RS.take_f {R : RS} {n : Int} (h : R.f.isSome = true) : R.take n = (⟨#[]⟩, R) := by unfold RS.take; rw [if_pos h]
theorem RS.take_neg {R : RS} {n : Int} (h : R.f = none) (h1 : n < 0) : R.take n = (⟨#[]⟩, { R with f := some (2, R.at_) }) := by unfold RS.take; rw [if_neg (by simp [h]), if_pos h1]
theorem RS.take_short {R : RS} {n : Int} (h : R.f = none) (h1 : ¬ n < 0) (h2 : (R.s.size : Int) - R.at_ < n) : R.take n = (⟨#[]⟩, { R with f := some (3, R.at_) }) := by unfold RS.take; rw [if_neg (by simp [h]), if_neg h1, if_pos h2]
theorem RS.take_ok {R : RS} {n : Int} (h : R.f = none) (h1 : ¬ n < 0) (h2 : ¬ (R.s.size : Int) - R.at_ < n) : R.take n = (R.s.extract R.at_ (R.at_ + n.toNat), { R with at_ := R.at_ + n.toNat }) := by unfold RS.take; rw [if_neg (by simp [h]), if_neg h1, if_neg h2]
theorem Ro.blk {fu : Bool} {w : World} {q : Nat} {R : RS} (h : Ro fu w q R) : ∃ fp, Blk w q #[.string R.s, .int .i64 R.at_, .pointer fp] 76 (0, 0) := by obtain ⟨⟨fp, hb, _⟩, _, _⟩ := h; exact ⟨fp, hb⟩
theorem Ro.lt {fu : Bool} {w : World} {q : Nat} {R : RS} (h : Ro fu w q R) : q < w.heap.size := by obtain ⟨fp, hb⟩ := h.blk; exact hb.lt
theorem Ro.later {fu : Bool} {w w' : World} {q : Nat} {R : RS} (h : Ro fu w q R) (hb : Below w.heap.size w w') : Ro fu w' q R := by
  obtain ⟨⟨fp, h1, h2, h3⟩, hl, hs⟩ := h
  refine ⟨⟨fp, h1.below hb h1.lt, h2, fun c i hf => ?_⟩, hl, hs⟩
  obtain ⟨b, e1, e2⟩ := h3 c i hf
  exact ⟨b, e1, fun hfu => ⟨(e2 hfu).1, (e2 hfu).2.below hb (e2 hfu).2.lt⟩⟩
theorem read_any (fu : Bool) (s : ByteArray) (w : World) (hs : s.size ≤ 140737488355328) : Calls Tryd.prog 13 #[.string s] w fun e w' => ∃ q, e = .returned (.pointer (some ⟨q, 0, none⟩)) ∧ Ro fu w' q ⟨s, 0, none⟩ ∧ w.heap.size ≤ q ∧ Below w.heap.size w w' := by
  go_enter Tryd.func13, Tryd.ntmps13
  go_wp2
  go_ret
  exact ⟨_, rfl, ⟨⟨none, Blk.new _ _ _ _, fun _ => rfl, fun c i h => by cases h⟩, Nat.zero_le _, hs⟩, Nat.le_refl _, (Below.refl _ _).alloc (Nat.le_refl _) _⟩
theorem at_any (fu : Bool) (q : Nat) (R : RS) (w : World) (h : Ro fu w q R) : Calls Tryd.prog 23 #[.pointer (some ⟨q, 0, none⟩)] w fun e w' => e = .returned (.int .i64 R.at_) ∧ w = w' := by
  obtain ⟨fp, hb⟩ := h.blk
  have c1 := hb.cell 1
  change w.cell? ⟨q, 1, none⟩ = some (.int .i64 R.at_) at c1
  clear h hb
  go_enter Tryd.func23, Tryd.ntmps23
  go_wp2
  go_ret
  exact ⟨rfl, rfl⟩
theorem left_any (fu : Bool) (q : Nat) (R : RS) (w : World) (h : Ro fu w q R) : Calls Tryd.prog 24 #[.pointer (some ⟨q, 0, none⟩)] w fun e w' => e = .returned (.int .i64 ((R.s.size : Int) - R.at_)) ∧ Below w.heap.size w w' := by
  obtain ⟨fp, hb⟩ := h.blk
  have c0 := hb.cell 0
  have c1 := hb.cell 1
  change w.cell? ⟨q, 0, none⟩ = some (.string R.s) at c0
  change w.cell? ⟨q, 1, none⟩ = some (.int .i64 R.at_) at c1
  have e1 : IntKind.i64.wrap ((R.s.size : Int) - (R.at_ : Int)) = (R.s.size : Int) - R.at_ := by have := h.le; have := h.sz; exact wrap_small _ (by omega) (by omega)
  clear h hb
  go_enter Tryd.func24, Tryd.ntmps24
  go_wp2_with fail
  go_quiet (fail)
  go_wp2_with fail
  go_ret
  exact ⟨rfl, ⟨rfl, rfl, rfl, Nat.le_refl _, fun _ _ => rfl⟩⟩
theorem Ro.weak {fu : Bool} {w : World} {q : Nat} {R : RS} (h : Ro fu w q R) : Ro false w q R := by
  obtain ⟨⟨fp, h1, h2, h3⟩, hl, hs⟩ := h
  exact ⟨⟨fp, h1, h2, fun c i hf => by obtain ⟨b, e, _⟩ := h3 c i hf; exact ⟨b, e, fun h => by cases h⟩⟩, hl, hs⟩
theorem Ro.same {w w' : World} {q : Nat} {R : RS} (h : Ro false w q R) (hq : w'.heap[q]? = w.heap[q]?) : Ro false w' q R := by
  obtain ⟨⟨fp, h1, h2, h3⟩, hl, hs⟩ := h
  exact ⟨⟨fp, hq.trans h1, h2, fun c i hf => by obtain ⟨b, e, _⟩ := h3 c i hf; exact ⟨b, e, fun h => by cases h⟩⟩, hl, hs⟩
/-- what an operation of a reader leaves: blocks but its own as they were -/
def RoOn (fu : Bool) (w : World) (q : Nat) (R : RS) (w' : World) : Prop := Ro fu w' q R ∧ Kept (· = q) w w'
theorem RoOn.drew {fu : Bool} {w w' : World} {q : Nat} {R : RS} (h : RoOn fu w q R w') : RoOn fu w q R w'.drew := ⟨h.1.later ((Below.refl _ _).drew), h.2.drew⟩
theorem Ro.fault (fu : Bool) {w : World} {q : Nat} {R : RS} (hb : Blk w q #[.string R.s, .int .i64 R.at_, .pointer none] 76 (0, 0)) (hl : R.at_ ≤ R.s.size) (hs : R.s.size ≤ 140737488355328) (c : Int) :
    RoOn fu w q { R with f := some (c, R.at_) } ((w.setCell ⟨q, 2, none⟩ (.pointer (some ⟨w.heap.size, 0, none⟩))).alloc (.cells #[.int .i64 c, .int .i64 0, .int .i64 R.at_, .int .i64 0] 42)) := by
  have hz : (w.setCell ⟨q, 2, none⟩ (.pointer (some ⟨w.heap.size, 0, none⟩))).heap.size = w.heap.size := by simp [World.setCell]
  have h1 := (hb.set 2 (.pointer (some ⟨w.heap.size, 0, none⟩))).alloc (.cells #[.int .i64 c, .int .i64 0, .int .i64 R.at_, .int .i64 0] 42)
  have h2 := Blk.new (w.setCell ⟨q, 2, none⟩ (.pointer (some ⟨w.heap.size, 0, none⟩))) #[.int .i64 c, .int .i64 0, .int .i64 R.at_, .int .i64 0] 42 (0, 0)
  rw [hz] at h2
  have hq := hb.lt
  refine ⟨⟨⟨_, h1, (fun h => by cases h), fun c' i' h => ?_⟩, hl, hs⟩, ((Kept.refl (· = q) w).setCell (p := ⟨q, 2, none⟩) rfl _).alloc _⟩
  simp only [Option.some.injEq, Prod.mk.injEq] at h
  obtain ⟨rfl, rfl⟩ := h
  exact ⟨_, rfl, fun _ => ⟨by omega, h2⟩⟩
theorem Ro.moved (fu : Bool) {w : World} {q : Nat} {R : RS} (hb : Blk w q #[.string R.s, .int .i64 R.at_, .pointer none] 76 (0, 0)) (hf : R.f = none) (hs : R.s.size ≤ 140737488355328) (a2 : Nat) (h2 : a2 ≤ R.s.size) :
    RoOn fu w q { R with at_ := a2 } (w.setCell ⟨q, 1, none⟩ (.int .i64 a2)) := by
  refine ⟨⟨⟨none, hb.set 1 (.int .i64 a2), fun _ => rfl, fun c i h => by rw [show R.f = none from hf] at h; cases h⟩, h2, hs⟩, (Kept.refl (· = q) w).setCell (p := ⟨q, 1, none⟩) rfl _⟩
set_option maxHeartbeats 1000000 in
theorem rTake_any (fu : Bool) (q : Nat) (R : RS) (n : Int) (w : World) (h : Ro fu w q R) (hn : n ≤ 9223372036854775807) :
    Calls Tryd.prog 38 #[.pointer (some ⟨q, 0, none⟩), .int .i64 n] w fun e w' => e = .returned (.string (R.take n).1) ∧ RoOn fu w q (R.take n).2 w' := by
  obtain ⟨⟨fp, hb, hf0, hf1⟩, hle, hsz⟩ := id h
  have c0 := hb.cell 0
  have c1 := hb.cell 1
  have c2 := hb.cell 2
  change w.cell? ⟨q, 0, none⟩ = some (.string R.s) at c0
  change w.cell? ⟨q, 1, none⟩ = some (.int .i64 R.at_) at c1
  change w.cell? ⟨q, 2, none⟩ = some (.pointer fp) at c2
  have hql := hb.lt
  have hfr := fun i => hb.free i (Or.inr (Nat.zero_le _))
  have H := Lib.hid h; have HB := Lib.hid hb
  cases hf : R.f with
  | some ci =>
    obtain ⟨c, i⟩ := ci
    obtain ⟨b, rfl, hfb⟩ := hf1 c i hf
    rw [RS.take_f (by rw [hf]; rfl)]
    clear h hf hf0 hf1 hfb hfr hb
    go_enter Tryd.func38, Tryd.ntmps38
    go_wp2
    go_ret
    exact ⟨rfl, H.out, Kept.refl _ _⟩
  | none =>
    obtain rfl := hf0 hf
    have Hf := Lib.hid hf
    have hf2 := hfr 2
    have hf1' := hfr 1
    clear h hf0 hf1 hfr hb hf
    by_cases h1 : n < 0
    · rw [RS.take_neg Hf.out h1]
      go_enter Tryd.func38, Tryd.ntmps38
      go_wp2
      go_ret
      exact ⟨rfl, Ro.fault fu HB.out hle hsz 2⟩
    · obtain ⟨N, rfl⟩ := Int.eq_ofNat_of_zero_le (by omega : 0 ≤ n)
      have e1 : IntKind.i64.wrap ((R.s.size : Int) - (R.at_ : Int)) = (R.s.size : Int) - R.at_ := wrap_small _ (by omega) (by omega)
      by_cases h2 : (R.s.size : Int) - R.at_ < N
      · rw [RS.take_short Hf.out h1 h2]
        have k1 : decide ((R.s.size : Int) - R.at_ < N) = true := decide_eq_true h2
        go_enter Tryd.func38, Tryd.ntmps38
        go_wp2_with fail
        go_region_held3 (fun w' => w'.cell? ⟨q, 0, none⟩ = some (.string R.s) ∧ w'.cell? ⟨q, 1, none⟩ = some (.int .i64 R.at_)) (exact ⟨c0, c1⟩) (fail)
        go_wp2_with fail
        go_ret
        exact ⟨rfl, (Ro.fault fu HB.out hle hsz 3).drew⟩
      · rw [RS.take_ok Hf.out h1 h2]
        have k1 : decide ((R.s.size : Int) - R.at_ < N) = false := decide_eq_false h2
        obtain ⟨a2, ha2⟩ : ∃ a2, a2 = R.at_ + N := ⟨_, rfl⟩
        have e2 : IntKind.i64.wrap ((R.at_ : Int) + (N : Int)) = (a2 : Int) := by rw [ha2, ← Int.natCast_add]; exact wrap_small _ (by omega) (by omega)
        have b1 : (a2 : Int) ≤ (R.s.size : Int) := by omega
        have b2 : (R.at_ : Int) ≤ (a2 : Int) := by omega
        have Ha2 := Lib.hid ha2
        clear ha2
        go_enter Tryd.func38, Tryd.ntmps38
        go_wp2_with fail
        go_region_held3 (fun w' => w'.cell? ⟨q, 0, none⟩ = some (.string R.s) ∧ w'.cell? ⟨q, 1, none⟩ = some (.int .i64 R.at_)) (exact ⟨c0, c1⟩) (fail)
        go_wp2_with fail
        go_region_held3 (fun w' => w'.cell? ⟨q, 0, none⟩ = some (.string R.s) ∧ w'.cell? ⟨q, 1, none⟩ = some (.int .i64 R.at_)) (exact ⟨c0, c1⟩) (fail)
        go_wp2_with fail
        go_ret
        refine ⟨by rw [Int.toNat_natCast, ← Ha2.out]; rfl, ?_⟩
        rw [Int.toNat_natCast, ← Ha2.out]
        exact (Ro.moved fu HB.out Hf.out hsz a2 (by omega)).drew.drew
/-- the number that bytes are, the lowest first -/
def deb : List UInt8 → Nat
  | [] => 0
  | b :: l => b.toNat + 256 * deb l
theorem deb_lt (l : List UInt8) : deb l < 256 ^ l.length := by
  induction l with
  | nil => decide
  | cons b l ih =>
    have := b.toNat_lt
    show b.toNat + 256 * deb l < 256 ^ (l.length + 1)
    rw [Nat.pow_succ]; omega
theorem deb_snoc (l : List UInt8) (b : UInt8) : deb (l ++ [b]) = deb l + 256 ^ l.length * b.toNat := by
  induction l with
  | nil => simp [deb]
  | cons c l ih =>
    show c.toNat + 256 * deb (l ++ [b]) = c.toNat + 256 * deb l + 256 ^ (l.length + 1) * b.toNat
    rw [ih, Nat.mul_add, Nat.pow_succ]
    rw [show 256 * (256 ^ l.length * b.toNat) = 256 ^ l.length * 256 * b.toNat by rw [← Nat.mul_assoc, Nat.mul_comm 256]]
    omega
theorem deb_leb (k : Nat) : ∀ n, n < 256 ^ k → deb (leb n k) = n := by
  induction k with
  | zero => intro n h; have : n = 0 := by simpa using h
            subst this; rfl
  | succ k ih =>
    intro n h
    show (UInt8.ofNat (n % 256)).toNat + 256 * deb (leb (n / 256) k) = n
    have e : (UInt8.ofNat (n % 256)).toNat = n % 256 := UInt8.toNat_ofNat_of_lt' (Nat.mod_lt _ (by decide))
    rw [ih _ (by rw [Nat.pow_succ] at h; exact Nat.div_lt_of_lt_mul (by omega)), e]
    omega
/-- the number of the next bytes -/
def RS.num (R : RS) (many : Nat) : Nat × RS := (deb (R.take many).1.data.toList, (R.take many).2)
theorem RS.take_size (R : RS) (many : Nat) : (R.take many).1.size ≤ many := by
  unfold RS.take
  split
  · exact Nat.zero_le _
  · split
    · exact Nat.zero_le _
    · split
      · exact Nat.zero_le _
      · rw [ByteArray.size_extract]; simp; omega
theorem RS.num_lt (R : RS) (many : Nat) : (R.num many).1 < 256 ^ many := by
  refine Nat.lt_of_lt_of_le (deb_lt _) (Nat.pow_le_pow_right (by decide) ?_)
  rw [Array.length_toList]; exact R.take_size many
theorem deb_take (s : ByteArray) (k : Nat) (hk : k < s.size) (h8 : k < 8) :
    bits .or .u64 ((deb (s.data.toList.take k) : Nat) : Int) (IntKind.u64.wrap ((s[k].toNat : Int) * 2 ^ (8 * k))) = ((deb (s.data.toList.take (k + 1)) : Nat) : Int) := by
  have hl : k < s.data.toList.length := hk
  have e1 : s.data.toList.take (k + 1) = s.data.toList.take k ++ [s[k]] := by rw [List.take_succ_eq_append_getElem hl]; rfl
  have hlen : (s.data.toList.take k).length = k := by rw [List.length_take]; omega
  have hA := deb_lt (s.data.toList.take k)
  rw [hlen] at hA
  have h256 : (256 : Nat) ^ k = 2 ^ (8 * k) := by rw [Nat.pow_mul]
  rw [h256] at hA
  have hx := s[k].toNat_lt
  have hP : 2 ^ (8 * k) * 256 ≤ 18446744073709551616 := by
    rw [show (256 : Nat) = 2 ^ 8 from rfl, ← Nat.pow_add]
    exact Nat.le_trans (Nat.pow_le_pow_right (by decide) (show 8 * k + 8 ≤ 64 by omega)) (by decide)
  have hPx : 2 ^ (8 * k) * s[k].toNat < 18446744073709551616 := by
    refine Nat.lt_of_lt_of_le ?_ hP
    exact Nat.mul_lt_mul_of_pos_left hx (Nat.pow_pos (by decide))
  have hAP : 2 ^ (8 * k) ≤ 18446744073709551616 := by omega
  rw [e1, deb_snoc, hlen, h256]
  generalize deb (s.data.toList.take k) = A at *
  generalize s[k].toNat = x at *
  have e2 : ((x : Int) * 2 ^ (8 * k)) = ((2 ^ (8 * k) * x : Nat) : Int) := by rw [Int.natCast_mul, Int.mul_comm]; simp
  rw [e2]
  have e3 : IntKind.u64.wrap ((2 ^ (8 * k) * x : Nat) : Int) = ((2 ^ (8 * k) * x : Nat) : Int) := by
    rw [n64_wrap, n64_nat _ hPx]
  rw [e3, u64_or_nat _ _ (by omega) hPx]
  congr 1
  rw [Nat.add_comm, Nat.two_pow_add_eq_or_of_lt hA, Nat.or_comm]
end Go.Proofs.YtaikcehdomaebaaDoor
