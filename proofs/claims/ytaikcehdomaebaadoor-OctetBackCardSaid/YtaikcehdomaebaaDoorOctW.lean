/- THE WALKS over octet, I: the writer: New, Text, String. -/
import Derived.Test.YtaikcehdomaebaaDoorAppend
import Derived.Test.YtaikcehdomaebaaDoorKept
import Derived.Test.YtaikcehdomaebaaDoorRows
import Derived.WalkKit
import Derived.WalkSpells
import Derived.WalkLawsBesides
import Derived.Lib.Hide
import Derived.Deep.RegionLaw
import Derived.Deep.RegionHeld3
import Derived.ChangeAlike
import Derived.Laws.BitsAllLaws
namespace Go.Proofs.YtaikcehdomaebaaDoor
open Go.RowKit
abbrev u8v (b : UInt8) : Value := Value.int .u8 (b.toNat : Int)
/-- a writer at p has written l; F: its blocks -/
structure Wr (w : World) (p : Nat) (l : List UInt8) (F : Nat → Prop) : Prop where
  ex : ∃ v, Blk w p #[v] 69 (0, 0) ∧ w.ownsRow 0 5 1 v l.length (l.map u8v) ∧ ∀ b, v.ownBlock = some b → F b
  mem : F p
  lt : ∀ b, F b → b < w.heap.size
theorem infoU8 : (Tryd.prog.info? 5).map (fun i => (i.zero, i.size, i.bytes)) = some (some (.int .u8 0), 1, 1) := by kernel_rfl
theorem Wr.kept {w w' : World} {p : Nat} {l : List UInt8} {F S : Nat → Prop} (h : Wr w p l F) (hk : Kept S w w') (hd : ∀ b, F b → ¬ S b) : Wr w' p l F := by
  obtain ⟨⟨v, hb, ho, hv⟩, hm, hl⟩ := h
  refine ⟨⟨v, hk.blk hb (hd _ hm), ⟨ho.1, ?_⟩, hv⟩, hm, fun b hb => Nat.lt_of_lt_of_le (hl b hb) hk.size⟩
  rcases ho.2 with hn | ⟨g, cap, cur, rfl, h0, hg, h1, h2, h3, h4⟩
  · exact .inl hn
  · exact .inr ⟨g, cap, cur, rfl, h0, (hk.block g (hl _ (hv g rfl)) (hd _ (hv g rfl))).trans hg, h1, h2, h3, h4⟩
theorem Wr.later {w w' : World} {p : Nat} {l : List UInt8} {F : Nat → Prop} (h : Wr w p l F) (hb : Below w.heap.size w w') : Wr w' p l F :=
  h.kept (S := fun _ => False) ⟨hb.os, hb.tape, hb.output, hb.size, fun k hk _ => hb.block k hk⟩ (fun _ _ h => h)
theorem octNew_any (w : World) : Calls Tryd.prog 8 #[] w fun e w' => ∃ p, e = .returned (.pointer (some ⟨p, 0, none⟩)) ∧ Wr w' p [] (· = p) ∧ w.heap.size ≤ p ∧ Below w.heap.size w w' := by
  go_enter Tryd.func8, Tryd.ntmps8
  go_wp2
  go_ret
  refine ⟨w.heap.size, rfl, ⟨⟨.slice none 0 0, Blk.new _ _ _ _, World.ownsRow_nil _ _ _ _, fun b h => by cases h⟩, rfl, fun b hb => by subst hb; simp⟩, Nat.le_refl _, (Below.refl _ _).alloc (Nat.le_refl _) _⟩
theorem byteCells_map (s : ByteArray) : byteCells s = s.data.toList.map u8v := rfl
/-- behind an append and the store back -/
theorem Wr.appended {w w1 : World} {p : Nat} {l m : List UInt8} {F : Nat → Prop} {v v' : Value} (hb : Blk w p #[v] 69 (0, 0)) (ho : w.ownsRow 0 5 1 v l.length (l.map u8v)) (hv : ∀ b, v.ownBlock = some b → F b) (hm : F p) (hl : ∀ b, F b → b < w.heap.size)
    (h1 : w1.ownsRow 0 5 1 v' (l.length + m.length) (l.map u8v ++ m.map u8v)) (hg : w.grownBy w1 v.ownBlock) (hat : v'.ownBlock = v.ownBlock ∨ v'.ownBlock = some w.heap.size) :
    Blk w1 p #[v] 69 (0, 0) ∧ Wr (w1.setCell ⟨p, 0, none⟩ v') p (l ++ m) (fun b => F b ∨ (w.heap.size ≤ b ∧ b < w1.heap.size)) ∧ Kept F w (w1.setCell ⟨p, 0, none⟩ v') := by
  have hpv : some p ≠ v.ownBlock := by
    rcases ho.2 with ⟨rfl, _⟩ | ⟨g, cap, cur, rfl, _, hgb, _⟩
    · simp [Value.ownBlock]
    · intro e
      obtain rfl : p = g := by simpa [Value.ownBlock] using e
      rw [show w.heap[p]? = _ from hb] at hgb
      cases hgb
  have hb1 : Blk w1 p #[v] 69 (0, 0) := (hg.block p hb.lt hpv).trans hb
  refine ⟨hb1, ⟨⟨v', ?_, ⟨by have := h1.1; rw [List.length_map, List.length_append]; omega, ?_⟩, ?_⟩, .inl hm, ?_⟩, ?_⟩
  · have := hb1.set 0 v'
    simpa using this
  · rcases h1.2 with ⟨hn, hz⟩ | ⟨g, cap, cur, rfl, h0, hgb, r1, r2, r3, r4⟩
    · exact .inl ⟨hn, by rw [List.length_append]; exact hz⟩
    · refine .inr ⟨g, cap, cur, by rw [List.length_append], h0, ?_, by rw [List.length_append]; exact r1, r2, r3, by rw [List.length_append, List.map_append]; exact r4⟩
      refine (heap_setCell_other _ _ _ _ ?_).trans hgb
      intro e
      have e' : g = p := e
      subst e'
      rw [show w1.heap[g]? = _ from hb1] at hgb
      cases hgb
  · intro b hbv
    rcases hat with e | e
    · exact .inl (hv b (e ▸ hbv))
    · rw [e] at hbv
      obtain rfl : w.heap.size = b := by simpa using hbv
      refine .inr ⟨Nat.le_refl _, ?_⟩
      rcases h1.2 with ⟨hn, _⟩ | ⟨g, cap, cur, rfl, h0, hgb, _⟩
      · rw [hn] at e; cases e
      · obtain rfl : g = w.heap.size := by simpa [Value.ownBlock] using e
        exact (Array.getElem?_eq_some_iff.1 hgb).1
  · intro b hb2
    have hs : (w1.setCell ⟨p, 0, none⟩ v').heap.size = w1.heap.size := by simp [World.setCell]
    rw [hs]
    rcases hb2 with hb2 | hb2
    · exact Nat.lt_of_lt_of_le (hl b hb2) hg.size
    · exact hb2.2
  · refine Kept.setCell (p := ⟨p, 0, none⟩) ⟨hg.os, hg.tape, hg.output, hg.size, fun k hk hs => hg.block k hk (fun e => hs (hv k e.symm))⟩ hm _
/-- what an operation of a writer leaves -/
def WrOn (w : World) (p : Nat) (l : List UInt8) (F : Nat → Prop) (w' : World) : Prop := ∃ F' : Nat → Prop, Wr w' p l F' ∧ Kept F w w' ∧ (∀ b, F' b → F b ∨ w.heap.size ≤ b)
set_option maxHeartbeats 1000000 in
theorem text_any (p : Nat) (l : List UInt8) (F : Nat → Prop) (s : ByteArray) (w : World) (h : Wr w p l F) (hl : l.length + s.size ≤ 1099511627776) :
    Calls Tryd.prog 20 #[.pointer (some ⟨p, 0, none⟩), .string s] w fun e w' => (∃ v, e = .returned v) ∧ WrOn w p (l ++ s.data.toList) F w' := by
  obtain ⟨⟨v, hb, ho, hv⟩, hm, hlt⟩ := h
  obtain ⟨i0, hi, hz0, hz1, hz2⟩ := info_parts infoU8
  have hsl : s.data.toList.length = s.size := by rw [Array.length_toList]; rfl
  obtain ⟨v', w1, hr, h1, hg, hat⟩ := run_append_src (P := Tryd.prog) 0 67 9 67 5 i0 (.int .u8 0) 1 Tryd.underlying67 hi hz0 hz1 hz2 rfl v l.length _ ho (.string s) s.size (byteCells s) (Src.ofString w Tryd.underlying9 s) (by unfold maxLen; omega) (by omega) (Nat.zero_le _)
  rw [byteCells_map, ← hsl] at h1
  obtain ⟨hb1, hw, hk⟩ := Wr.appended (m := s.data.toList) hb ho hv hm hlt h1 hg hat
  have hc := hb.cell 0
  have hc1 := hb1.cell 0
  have hf1 := hb1.free 0 (Or.inr (Nat.zero_le _))
  change w.cell? ⟨p, 0, none⟩ = some v at hc
  change w1.cell? ⟨p, 0, none⟩ = some v at hc1
  have hve : ∃ a n c, v' = .slice a n c := by
    rcases h1.2 with ⟨rfl, _⟩ | ⟨g, cap, cur, rfl, _⟩ <;> exact ⟨_, _, _, rfl⟩
  have hve0 : ∃ a n c, v = .slice a n c := by
    rcases ho.2 with ⟨rfl, _⟩ | ⟨g, cap, cur, rfl, _⟩ <;> exact ⟨_, _, _, rfl⟩
  have HW := Lib.hid hw; have HK := Lib.hid hk; have Hr := Lib.hid hr
  clear hb ho hb1 hw hk hr h1 hg hat hi hz0 hz1 hz2 hsl
  obtain ⟨a', n', c', rfl⟩ := hve
  obtain ⟨a0, n0, c0, rfl⟩ := hve0
  go_enter Tryd.func20, Tryd.ntmps20
  go_wp2_with (at_builtin; refine wpList_append_src rfl _ _ _ _ rfl Hr.out ?_)
  go_end0
  exact ⟨⟨_, rfl⟩, _, HW.out, HK.out, fun b hb => hb.imp id (fun h => h.1)⟩
theorem str_any (p : Nat) (l : List UInt8) (F : Nat → Prop) (w : World) (h : Wr w p l F) :
    Calls Tryd.prog 10 #[.pointer (some ⟨p, 0, none⟩)] w fun e w' => e = .returned (.string ⟨l.toArray⟩) ∧ w = w' := by
  obtain ⟨⟨v, hb, ho, hv⟩, hm, hlt⟩ := h
  have hc := hb.cell 0
  change w.cell? ⟨p, 0, none⟩ = some v at hc
  have hcv : ∀ {src dst e : TypeId}, Tryd.prog.underlying src = some (.slice e) → Tryd.prog.underlying e = some (.int .u8) → Tryd.prog.underlying dst = some .string →
      (convert src dst v).run Tryd.prog w = .ok (.string ⟨l.toArray⟩) w := by
    intro src dst e h1 h2 h3
    rcases ho.2 with ⟨rfl, hz⟩ | ⟨g, cap, cur, rfl, _, hgb, hlc, _, hcs, hcl⟩
    · have : l = [] := List.eq_nil_of_length_eq_zero hz
      subst this
      simp [convert, Conv.bytesToString, run_underlying h1, run_underlying h2, run_underlying h3, go_sem]
      rfl
    · refine run_convert_bytes_back w src dst e ⟨g, 0, none⟩ cap l h1 h2 h3 ?_
      intro j hj
      have ha : (⟨g, 0, none⟩ : Addr).add j = ⟨g, j, none⟩ := by unfold Addr.add; split <;> simp_all
      have hb' : Blk w g cur 5 (0, 0) := hgb
      rw [ha, hb'.cell]
      rw [Nat.mul_one] at hcl
      have : (cur.toList.take l.length)[j]? = (l.map u8v)[j]? := by rw [hcl]
      rw [List.getElem?_take, if_pos hj] at this
      simpa [hj] using this
  have hcv' := hcv (src := 67) (dst := 9) (e := 5) Tryd.underlying67 Tryd.underlying5 Tryd.underlying9
  clear hb ho hv hcv
  go_enter Tryd.func10, Tryd.ntmps10
  go_wp2
  go_ret
  exact ⟨rfl, rfl⟩
theorem Wr.app {w : World} {p : Nat} {l m : List UInt8} {F : Nat → Prop} {tx : TypeId} {x : Value} (h : Wr w p l F) (hs : Src Tryd.prog 1 tx x m.length (m.map u8v) w) (hl : l.length + m.length ≤ 1099511627776) :
    ∃ (a : Option Addr) (n c : Nat) (a' : Option Addr) (n' c' : Nat) (w1 : World), w.cell? ⟨p, 0, none⟩ = some (.slice a n c) ∧ (Builtin.append_ #[67, tx] 67 #[.slice a n c, x]).run Tryd.prog w = .ok (.slice a' n' c') w1 ∧
      w1.cell? ⟨p, 0, none⟩ = some (.slice a n c) ∧ w1.frozen? ⟨p, 0, none⟩ = false ∧ WrOn w p (l ++ m) F (w1.setCell ⟨p, 0, none⟩ (.slice a' n' c')) ∧ w.heap.size ≤ w1.heap.size := by
  obtain ⟨⟨v, hb, ho, hv⟩, hm, hlt⟩ := h
  obtain ⟨i0, hi, hz0, hz1, hz2⟩ := info_parts infoU8
  obtain ⟨v', w1, hr, h1, hg, hat⟩ := run_append_src (P := Tryd.prog) 0 67 tx 67 5 i0 (.int .u8 0) 1 Tryd.underlying67 hi hz0 hz1 hz2 rfl v l.length _ ho x m.length _ hs (by unfold maxLen; omega) (by omega) (Nat.zero_le _)
  obtain ⟨hb1, hw, hk⟩ := Wr.appended (m := m) hb ho hv hm hlt h1 hg hat
  have hve : ∃ a n c, v' = .slice a n c := by
    rcases h1.2 with ⟨rfl, _⟩ | ⟨g, cap, cur, rfl, _⟩ <;> exact ⟨_, _, _, rfl⟩
  have hve0 : ∃ a n c, v = .slice a n c := by
    rcases ho.2 with ⟨rfl, _⟩ | ⟨g, cap, cur, rfl, _⟩ <;> exact ⟨_, _, _, rfl⟩
  obtain ⟨a', n', c', rfl⟩ := hve
  obtain ⟨a0, n0, c0, rfl⟩ := hve0
  exact ⟨a0, n0, c0, a', n', c', w1, hb.cell 0, hr, hb1.cell 0, hb1.free 0 (Or.inr (Nat.zero_le _)), ⟨_, hw, hk, fun b hb => hb.imp id (fun h => h.1)⟩, hg.size⟩
theorem WrOn.next {w w1 w' : World} {p : Nat} {l' : List UInt8} {F F1 : Nat → Prop} (hk : Kept F w w1) (hF : ∀ b, F1 b → F b ∨ w.heap.size ≤ b) (h : WrOn w1 p l' F1 w') : WrOn w p l' F w' := by
  obtain ⟨F2, hw, hk2, hF2⟩ := h
  refine ⟨F2, hw, ⟨hk2.os.trans hk.os, hk2.tape.trans hk.tape, hk2.output.trans hk.output, Nat.le_trans hk.size hk2.size, fun k hlt hs => (hk2.block k (Nat.lt_of_lt_of_le hlt hk.size) (fun hf => ?_)).trans (hk.block k hlt hs)⟩, fun b hb => ?_⟩
  · rcases hF k hf with h | h
    · exact hs h
    · omega
  · rcases hF2 b hb with h | h
    · exact hF b h
    · exact .inr (Nat.le_trans hk.size h)
theorem Src.ofBlock {P : Program} {w : World} {t e : TypeId} (hk : P.underlying t = some (.slice e)) {A : Nat} {l : List UInt8} {x : Array Value} {ty : TypeId} {fr : Nat × Nat} (hb : Blk w A (u8cells l ++ x) ty fr) (n c : Nat) (hn : n ≤ l.length) :
    Src P 1 t (.slice (some ⟨A, 0, none⟩) n c) (l.take n).length ((l.take n).map u8v) w := by
  have hln : (l.take n).length = n := by rw [List.length_take]; omega
  rw [hln]
  refine Src.ofSlice w hk ⟨A, 0, none⟩ n c _ (by rw [List.length_map, hln, Nat.mul_one]) (fun j u hj => ?_) (fun u hu => by obtain ⟨b, _, rfl⟩ := List.mem_map.1 hu; rfl)
  have ea : (⟨A, 0, none⟩ : Addr).add j = ⟨A, j, none⟩ := by unfold Addr.add; split <;> simp_all
  have hjn : j < n := by
    have := (List.getElem?_eq_some_iff.1 hj).1
    rw [List.length_map, hln] at this; exact this
  rw [ea, hb.cell, u8cells_get _ _ _ (by omega)]
  rw [List.getElem?_map, List.getElem?_take, if_pos hjn, List.getElem?_eq_getElem (by omega)] at hj
  exact hj
/-- a number's 64 bits -/
def n64 (x : Int) : Nat := (IntKind.u64.wrap x).toNat
theorem u64_wrap_bd (x : Int) : 0 ≤ IntKind.u64.wrap x ∧ IntKind.u64.wrap x < 18446744073709551616 := by
  simp [IntKind.wrap, IntKind.signed, IntKind.bits]; omega
theorem n64_wrap (x : Int) : IntKind.u64.wrap x = (n64 x : Int) := by unfold n64; have := u64_wrap_bd x; omega
theorem n64_lt (x : Int) : n64 x < 18446744073709551616 := by unfold n64; have := u64_wrap_bd x; omega
theorem n64_nat (n : Nat) (h : n < 18446744073709551616) : n64 (n : Int) = n := by
  unfold n64; simp [IntKind.wrap, IntKind.signed, IntKind.bits]; omega
/-- the bytes of a number, the lowest first -/
def leb : Nat → Nat → List UInt8
  | _, 0 => []
  | n, k + 1 => UInt8.ofNat (n % 256) :: leb (n / 256) k
theorem leb_length (k : Nat) : ∀ n, (leb n k).length = k := by
  induction k with
  | zero => intro n; rfl
  | succ k ih => intro n; show (_ :: leb _ k).length = _; rw [List.length_cons, ih]
theorem leb_snoc (k : Nat) : ∀ n, leb n (k + 1) = leb n k ++ [UInt8.ofNat (n / 256 ^ k % 256)] := by
  induction k with
  | zero => intro n; simp [leb]
  | succ k ih =>
    intro n
    show UInt8.ofNat (n % 256) :: leb (n / 256) (k + 1) = (UInt8.ofNat (n % 256) :: leb (n / 256) k) ++ _
    rw [ih, List.cons_append, Nat.div_div_eq_div_mul, ← Nat.pow_succ']
theorem leb_take (k : Nat) : ∀ n j, (leb n (k + j)).take k = leb n k := by
  induction k with
  | zero => intro n j; rfl
  | succ k ih =>
    intro n j
    rw [show k + 1 + j = (k + j) + 1 by omega]
    show (UInt8.ofNat (n % 256) :: leb (n / 256) (k + j)).take (k + 1) = UInt8.ofNat (n % 256) :: leb (n / 256) k
    rw [List.take_succ_cons, ih]
theorem leb_set (N j : Nat) (hj : j < 8) : (leb N j ++ List.replicate (8 - j) 0).set j (UInt8.ofNat (N / 256 ^ j % 256)) = leb N (j + 1) ++ List.replicate (8 - (j + 1)) 0 := by
  rw [List.set_append_right _ _ (by rw [leb_length]; exact Nat.le_refl _), leb_length, Nat.sub_self, show 8 - j = (8 - (j + 1)) + 1 by omega, List.replicate_succ, List.set_cons_zero, leb_snoc, List.append_assoc]
  rfl
end Go.Proofs.YtaikcehdomaebaaDoor
