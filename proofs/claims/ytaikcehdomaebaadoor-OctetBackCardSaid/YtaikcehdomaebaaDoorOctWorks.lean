/- octet: the chapter's examples (works). -/
import Derived.Test.YtaikcehdomaebaaDoorOctLaw
namespace Go.Proofs.YtaikcehdomaebaaDoor
open Go.RowKit
/-- a writer of our own -/
def WS (w0 w : World) (p : Nat) (l : List UInt8) : Prop := ∃ F : Nat → Prop, Wr w p l F ∧ (∀ b, F b → w0.heap.size ≤ b) ∧ Below w0.heap.size w0 w
theorem WS.below {w0 w : World} {p : Nat} {l : List UInt8} (h : WS w0 w p l) : Below w0.heap.size w0 w := by obtain ⟨F, _, _, hb⟩ := h; exact hb
theorem WS.later {w0 w w' : World} {p : Nat} {l : List UInt8} (h : WS w0 w p l) (hb : Below w.heap.size w w') : WS w0 w' p l := by
  obtain ⟨F, h1, h2, h3⟩ := h; exact ⟨F, h1.later hb, h2, h3.next' hb⟩
theorem WS.on {w0 w w' : World} {p : Nat} {l : List UInt8} {F : Nat → Prop} (hF : ∀ b, F b → w0.heap.size ≤ b) (hb : Below w0.heap.size w0 w) (h : WrOn w p l F w') : WS w0 w' p l := by
  obtain ⟨F', h1, h2, h3⟩ := h
  exact ⟨F', h1, fun b hb' => (h3 b hb').elim (hF b) (fun h => Nat.le_trans hb.size h), hb.trans (h2.below hb.size hF)⟩
theorem WS.exact {w0 w : World} {p : Nat} {l : List UInt8} (h : WS w0 w p l) : ∃ F : Nat → Prop, Wr w p l F ∧ (∀ b, F b → w0.heap.size ≤ b) ∧ Below w0.heap.size w0 w ∧ ∀ b, F b → ∃ cs t, Blk w b cs t (0, 0) ∧ (t = 69 ∨ t = 5) := by
  obtain ⟨F, ⟨⟨v, hb, ho, hv⟩, hm, hl⟩, h2, h3⟩ := h
  refine ⟨fun b => b = p ∨ v.ownBlock = some b, ⟨⟨v, hb, ho, fun b hb => .inr hb⟩, .inl rfl, fun b hb' => ?_⟩, fun b hb' => ?_, h3, fun b hb' => ?_⟩
  · rcases hb' with rfl | hb'
    · exact hb.lt
    · exact hl b (hv b hb')
  · rcases hb' with rfl | hb'
    · exact h2 _ hm
    · exact h2 b (hv b hb')
  · rcases hb' with rfl | hb'
    · exact ⟨_, _, hb, .inl rfl⟩
    · rcases ho.2 with ⟨hn, _⟩ | ⟨g, cap, cur, rfl, h0, hg, _⟩
      · rw [hn] at hb'; cases hb'
      · obtain rfl : g = b := by simpa [Value.ownBlock] using hb'
        exact ⟨_, _, hg, .inr rfl⟩
/-- blocks but those of writers lie as they lay -/
def KpW (w w' : World) : Prop := ∀ X cs t fr, Blk w X cs t fr → t ≠ 69 → t ≠ 5 → Blk w' X cs t fr
theorem KpW.of {w w' : World} {F : Nat → Prop} (hk : Kept F w w') (hF : ∀ b, F b → ∃ cs t, Blk w b cs t (0, 0) ∧ (t = 69 ∨ t = 5)) : KpW w w' := fun X cs t fr hX h1 h2 => hk.blk hX (fun hf => by
  obtain ⟨cs', t', hb, ht⟩ := hF X hf
  have e := Option.some.inj (Eq.trans (Eq.symm hX) hb)
  cases e
  rcases ht with ht | ht
  · exact h1 ht
  · exact h2 ht)
theorem KpW.pre {w w1 w' : World} (hb : Below w.heap.size w w1) (h : KpW w1 w') : KpW w w' := fun X cs t fr hX h1 h2 => h X cs t fr (hX.below hb hX.lt) h1 h2
theorem ws_new (w : World) : Calls Tryd.prog 8 #[] w fun e w' => ∃ p, e = .returned (.pointer (some ⟨p, 0, none⟩)) ∧ WS w w' p [] ∧ Below w.heap.size w w' := by
  refine (octNew_any w).mono ?_
  rintro e w' ⟨p, rfl, h1, h2, hb⟩
  exact ⟨p, rfl, ⟨_, h1, fun b hb => by omega, hb⟩, hb⟩
theorem sl_icells {w : World} {g cap : Nat} {k : IntKind} {l : List Int} {ex : Array Value} {t : TypeId} {fr : Nat × Nat} (hb : Blk w g (icells k l ++ ex) t fr) (h1 : l.length ≤ cap) (h2 : cap ≤ maxLen) : SlI w (.slice (some ⟨g, 0, none⟩) l.length cap) k l :=
  ⟨_, cap, rfl, h1, h2, fun i hi => ⟨g, 0, rfl, by rw [Nat.zero_add, hb.cell, icells_get' _ _ _ _ hi]⟩⟩
section
variable {w0 w : World} {p : Nat} {l : List UInt8}
theorem ws_u32 (h : WS w0 w p l) (ns : List Int) (t : TypeId) (g : Nat) (hg : w.heap.size = g) (cs : Array Value) (hcs : cs = icells .u32 ns) (n : Nat) (hn : n = ns.length) (hl : l.length + 8 * ns.length ≤ 1000000000) :
    Calls Tryd.prog 9 #[.pointer (some ⟨p, 0, none⟩), .slice (some ⟨g, 0, none⟩) n n] (w.alloc (.cells cs t)) fun e w' => (∃ v, e = .returned v) ∧ WS w0 w' p (l ++ ns.flatMap (fun x => leb (n64 x) 4)) ∧ KpW w w' := by
  subst hg hcs hn
  have ha := (Below.refl w.heap.size w).alloc (Nat.le_refl _) (.cells (icells .u32 ns) t)
  obtain ⟨F, h1, h2, h3, h4⟩ := h.exact
  refine (wU32_sl p l F _ ns _ (h1.later ha) (sl_icells (ex := #[]) (by rw [Array.append_empty]; exact Blk.new _ _ _ _) (Nat.le_refl _) (by unfold maxLen; omega)) (by omega) (own_not (fun hf => by have := h1.lt _ hf; omega))).mono ?_
  rintro e w' ⟨he, hon⟩
  obtain ⟨F', q1, q2, q3⟩ := hon
  exact ⟨he, WS.on h2 (h3.next' ha) ⟨F', q1, q2, q3⟩, KpW.pre ha (KpW.of q2 (fun b hb => by obtain ⟨cs, t, hc, ht⟩ := h4 b hb; exact ⟨cs, t, hc.below ha hc.lt, ht⟩))⟩
theorem ws_i64 (h : WS w0 w p l) (ns : List Int) (t : TypeId) (g : Nat) (hg : w.heap.size = g) (cs : Array Value) (hcs : cs = icells .i64 ns) (n : Nat) (hn : n = ns.length) (hl : l.length + 8 * ns.length ≤ 1000000000) :
    Calls Tryd.prog 11 #[.pointer (some ⟨p, 0, none⟩), .slice (some ⟨g, 0, none⟩) n n] (w.alloc (.cells cs t)) fun e w' => (∃ v, e = .returned v) ∧ WS w0 w' p (l ++ ns.flatMap (fun x => leb (n64 x) 8)) ∧ KpW w w' := by
  subst hg hcs hn
  have ha := (Below.refl w.heap.size w).alloc (Nat.le_refl _) (.cells (icells .i64 ns) t)
  obtain ⟨F, h1, h2, h3, h4⟩ := h.exact
  refine (wI64_sl p l F _ ns _ (h1.later ha) (sl_icells (ex := #[]) (by rw [Array.append_empty]; exact Blk.new _ _ _ _) (Nat.le_refl _) (by unfold maxLen; omega)) (by omega) (own_not (fun hf => by have := h1.lt _ hf; omega))).mono ?_
  rintro e w' ⟨he, hon⟩
  obtain ⟨F', q1, q2, q3⟩ := hon
  exact ⟨he, WS.on h2 (h3.next' ha) ⟨F', q1, q2, q3⟩, KpW.pre ha (KpW.of q2 (fun b hb => by obtain ⟨cs, t, hc, ht⟩ := h4 b hb; exact ⟨cs, t, hc.below ha hc.lt, ht⟩))⟩
theorem ws_u8 (h : WS w0 w p l) (x : Int) (t : TypeId) (g : Nat) (hg : w.heap.size = g) (hl : l.length ≤ 1000000000) :
    Calls Tryd.prog 19 #[.pointer (some ⟨p, 0, none⟩), .slice (some ⟨g, 0, none⟩) 1 1] (w.alloc (.cells #[.int .u8 x] t)) fun e w' => (∃ v, e = .returned v) ∧ WS w0 w' p (l ++ leb (n64 x) 1) ∧ KpW w w' := by
  subst hg
  have ha := (Below.refl w.heap.size w).alloc (Nat.le_refl _) (.cells #[.int .u8 x] t)
  obtain ⟨F, h1, h2, h3, h4⟩ := h.exact
  refine (wU8_any p l F w.heap.size x t (0, 0) _ (h1.later ha) (Blk.new _ _ _ _) (fun hf => by have := h1.lt _ hf; omega) hl).mono ?_
  rintro e w' ⟨he, hon⟩
  obtain ⟨F', q1, q2, q3⟩ := hon
  exact ⟨he, WS.on h2 (h3.next' ha) ⟨F', q1, q2, q3⟩, KpW.pre ha (KpW.of q2 (fun b hb => by obtain ⟨cs, t, hc, ht⟩ := h4 b hb; exact ⟨cs, t, hc.below ha hc.lt, ht⟩))⟩
theorem ws_u64 (h : WS w0 w p l) (x : Int) (hx : 0 ≤ x ∧ x < 18446744073709551616) (t : TypeId) (g : Nat) (hg : w.heap.size = g) (hl : l.length ≤ 1000000000) :
    Calls Tryd.prog 12 #[.pointer (some ⟨p, 0, none⟩), .slice (some ⟨g, 0, none⟩) 1 1] (w.alloc (.cells #[.int .u64 x] t)) fun e w' => (∃ v, e = .returned v) ∧ WS w0 w' p (l ++ leb (n64 x) 8) ∧ KpW w w' := by
  subst hg
  have ha := (Below.refl w.heap.size w).alloc (Nat.le_refl _) (.cells #[.int .u64 x] t)
  obtain ⟨F, h1, h2, h3, h4⟩ := h.exact
  refine (wU64_any p l F w.heap.size x hx t (0, 0) _ (h1.later ha) (Blk.new _ _ _ _) (fun hf => by have := h1.lt _ hf; omega) hl).mono ?_
  rintro e w' ⟨he, hon⟩
  obtain ⟨F', q1, q2, q3⟩ := hon
  exact ⟨he, WS.on h2 (h3.next' ha) ⟨F', q1, q2, q3⟩, KpW.pre ha (KpW.of q2 (fun b hb => by obtain ⟨cs, t, hc, ht⟩ := h4 b hb; exact ⟨cs, t, hc.below ha hc.lt, ht⟩))⟩
theorem ws_text (h : WS w0 w p l) (s : ByteArray) (hl : l.length + s.size ≤ 1000000000) :
    Calls Tryd.prog 20 #[.pointer (some ⟨p, 0, none⟩), .string s] w fun e w' => (∃ v, e = .returned v) ∧ WS w0 w' p (l ++ s.data.toList) ∧ KpW w w' := by
  obtain ⟨F, h1, h2, h3, h4⟩ := h.exact
  refine (text_any p l F s w h1 (by omega)).mono ?_
  rintro e w' ⟨he, hon⟩
  obtain ⟨F', q1, q2, q3⟩ := hon
  exact ⟨he, WS.on h2 h3 ⟨F', q1, q2, q3⟩, KpW.of q2 h4⟩
theorem ws_str (h : WS w0 w p l) : Calls Tryd.prog 10 #[.pointer (some ⟨p, 0, none⟩)] w fun e w' => e = .returned (.string ⟨l.toArray⟩) ∧ w = w' := by
  obtain ⟨F, h1, h2, h3⟩ := h
  exact str_any p l F w h1
end
/-- blocks that are there stay, but those of readers' heads -/
theorem WS.reads {w0 w w' : World} {p : Nat} {l : List UInt8} {q : Nat} {fu : Bool} {R : RS} (h : WS w0 w p l) (hq : Ro fu w q R) (hq0 : w0.heap.size ≤ q) (hk : Kept (· = q) w w') : WS w0 w' p l := by
  obtain ⟨F, ⟨⟨v, hb, ho, hv⟩, hm, hl⟩, h2, h3⟩ := h
  obtain ⟨fp, hqb⟩ := hq.blk
  have hpq : ¬ p = q := fun e => by
    subst e
    have e2 := Option.some.inj (Eq.trans (Eq.symm hb) hqb)
    cases e2
  refine ⟨fun b => b = p ∨ v.ownBlock = some b, ⟨⟨v, hk.blk hb hpq, ⟨ho.1, ?_⟩, fun b hb => .inr hb⟩, .inl rfl, fun b hb' => ?_⟩, fun b hb' => ?_, h3.trans (hk.below h3.size (fun k hk => by rw [hk]; exact hq0))⟩
  · rcases ho.2 with hn | ⟨g, cap, cur, rfl, h0, hg, h1⟩
    · exact .inl hn
    · have hgq : ¬ g = q := fun e => by
        subst e
        have e2 := Option.some.inj (Eq.trans (Eq.symm hg) hqb)
        cases e2
      exact .inr ⟨g, cap, cur, rfl, h0, (hk.block g (Array.getElem?_eq_some_iff.1 hg).1 hgq).trans hg, h1⟩
  · rcases hb' with rfl | hb'
    · exact Nat.lt_of_lt_of_le hb.lt hk.size
    · exact Nat.lt_of_lt_of_le (hl b (hv b hb')) hk.size
  · rcases hb' with rfl | hb'
    · exact h2 _ hm
    · exact h2 b (hv b hb')
/-- a reader that another block's turning leaves -/
theorem Ro.other {fu : Bool} {w w' : World} {q q2 : Nat} {R : RS} {cs : Array Value} {t : TypeId} {fr : Nat × Nat} (h : Ro fu w q R) (hq : Blk w q2 cs t fr) (hne : q ≠ q2) (ht : t ≠ 42) (hk : Kept (· = q2) w w') : Ro fu w' q R := by
  obtain ⟨⟨fp, h1, h2, h3⟩, hl, hs⟩ := h
  refine ⟨⟨fp, hk.blk h1 hne, h2, fun c i hf => ?_⟩, hl, hs⟩
  obtain ⟨b, e, h4⟩ := h3 c i hf
  refine ⟨b, e, fun hfu => ⟨(h4 hfu).1, hk.blk (h4 hfu).2 (fun e => ?_)⟩⟩
  have e1 : b = q2 := e
  subst e1
  have e2 := Option.some.inj (Eq.trans (Eq.symm (h4 hfu).2) hq)
  cases e2
  exact ht rfl
def ba5 : ByteArray := ⟨#[5, 0, 0, 0, 97]⟩
def ba3 : ByteArray := ⟨#[1, 2, 3]⟩
def ba2 : ByteArray := ⟨#[1, 2]⟩
theorem sl_bytes : (([] ++ [(1 : Int), 4294967295].flatMap (fun x => leb (n64 x) 4)) ++ leb (n64 7) 1) ++ [(-2 : Int)].flatMap (fun x => leb (n64 x) 8) = [1, 0, 0, 0, 255, 255, 255, 255, 7, 254, 255, 255, 255, 255, 255, 255, 255] := by decide +kernel
section
variable {q : Nat} {R R' : RS} {w : World} {n : Nat} {s : ByteArray}
theorem rU8_is (h : Ro true w q R) (e1 : (R.num 1).1 = n) (e2 : (R.num 1).2 = R') : Calls Tryd.prog 22 #[.pointer (some ⟨q, 0, none⟩)] w fun e w' => e = .returned (.int .u8 (n : Nat)) ∧ RoOn true w q R' w' := by subst e1 e2; exact rU8_any true q R w h
theorem rU32_is (h : Ro true w q R) (e1 : (R.num 4).1 = n) (e2 : (R.num 4).2 = R') : Calls Tryd.prog 14 #[.pointer (some ⟨q, 0, none⟩)] w fun e w' => e = .returned (.int .u32 (n : Nat)) ∧ RoOn true w q R' w' := by subst e1 e2; exact rU32_any true q R w h
theorem rU64_is (h : Ro true w q R) (e1 : (R.num 8).1 = n) (e2 : (R.num 8).2 = R') : Calls Tryd.prog 15 #[.pointer (some ⟨q, 0, none⟩)] w fun e w' => e = .returned (.int .u64 (n : Nat)) ∧ RoOn true w q R' w' := by subst e1 e2; exact rU64_any true q R w h
theorem rI64_is (h : Ro true w q R) (x : Int) (e1 : wrap64 ((R.num 8).1 : Nat) = x) (e2 : (R.num 8).2 = R') : Calls Tryd.prog 26 #[.pointer (some ⟨q, 0, none⟩)] w fun e w' => e = .returned (.int .i64 x) ∧ RoOn true w q R' w' := by subst e1 e2; exact rI64_any true q R w h
theorem rText_is (h : Ro true w q R) (k : Int) (hk : k ≤ 9223372036854775807) (e1 : (R.take k).1 = s) (e2 : (R.take k).2 = R') : Calls Tryd.prog 21 #[.pointer (some ⟨q, 0, none⟩), .int .i64 k] w fun e w' => e = .returned (.string s) ∧ RoOn true w q R' w' := by subst e1 e2; exact rText_any true q R k w h hk
theorem end_at (h : Ro true w q R) (hok : R.ok) (c : Int) (i : Nat) (e1 : R.endF = (c, i)) : Calls Tryd.prog 25 #[.pointer (some ⟨q, 0, none⟩)] w fun e w' => ∃ v, e = .returned v ∧ ErrIs w' v c 0 (i : Nat) 0 ∧ (c = 0 → v = .nilIface) ∧ Below w.heap.size w w' := by
  refine (end_is q R w h hok).mono ?_
  rintro e w' ⟨v, rfl, h1, h2, h3⟩
  rw [e1] at h1 h2
  exact ⟨v, rfl, h1, h2, h3⟩
theorem err_at (h : Ro true w q R) (hok : R.ok) (c : Int) (i : Nat) (e1 : R.errF = (c, i)) : Calls Tryd.prog 16 #[.pointer (some ⟨q, 0, none⟩)] w fun e w' => ∃ v, e = .returned v ∧ ErrIs w' v c 0 (i : Nat) 0 ∧ (R.f = none → v = .nilIface) ∧ Below w.heap.size w w' := by
  refine (err_is q R w h hok).mono ?_
  rintro e w' ⟨v, rfl, h1, h2, _, h3⟩
  rw [e1] at h1
  exact ⟨v, rfl, h1, h2, h3⟩
end
/-- three readers of our own, and a writer -/
structure W4 (w0 w : World) (p : Nat) (l : List UInt8) (q1 q2 q3 : Nat) (R1 R2 R3 : RS) : Prop where
  ws : WS w0 w p l
  r1 : Ro true w q1 R1
  r2 : Ro true w q2 R2
  r3 : Ro true w q3 R3
  h1 : w0.heap.size ≤ q1 ∧ w0.heap.size ≤ q2 ∧ w0.heap.size ≤ q3 ∧ q1 ≠ q2 ∧ q1 ≠ q3 ∧ q2 ≠ q3
section
variable {w0 w w' : World} {p : Nat} {l : List UInt8} {q1 q2 q3 : Nat} {R1 R2 R3 R' : RS}
theorem W4.later (h : W4 w0 w p l q1 q2 q3 R1 R2 R3) (hb : Below w.heap.size w w') : W4 w0 w' p l q1 q2 q3 R1 R2 R3 := ⟨h.ws.later hb, h.r1.later hb, h.r2.later hb, h.r3.later hb, h.h1⟩
theorem W4.on1 (h : W4 w0 w p l q1 q2 q3 R1 R2 R3) (ho : RoOn true w q1 R' w') : W4 w0 w' p l q1 q2 q3 R' R2 R3 := by
  obtain ⟨fp, hb⟩ := h.r1.blk
  have h1 := h.h1
  exact ⟨h.ws.reads h.r1 h1.1 ho.2, ho.1, h.r2.other hb (by omega) (by decide) ho.2, h.r3.other hb (by omega) (by decide) ho.2, h1⟩
theorem W4.on2 (h : W4 w0 w p l q1 q2 q3 R1 R2 R3) (ho : RoOn true w q2 R' w') : W4 w0 w' p l q1 q2 q3 R1 R' R3 := by
  obtain ⟨fp, hb⟩ := h.r2.blk
  have h1 := h.h1
  exact ⟨h.ws.reads h.r2 h1.2.1 ho.2, h.r1.other hb (by omega) (by decide) ho.2, ho.1, h.r3.other hb (by omega) (by decide) ho.2, h1⟩
theorem W4.on3 (h : W4 w0 w p l q1 q2 q3 R1 R2 R3) (ho : RoOn true w q3 R' w') : W4 w0 w' p l q1 q2 q3 R1 R2 R' := by
  obtain ⟨fp, hb⟩ := h.r3.blk
  have h1 := h.h1
  exact ⟨h.ws.reads h.r3 h1.2.2.1 ho.2, h.r1.other hb (by omega) (by decide) ho.2, h.r2.other hb (by omega) (by decide) ho.2, ho.1, h1⟩
end
theorem ok_none (s : ByteArray) (a : Nat) : RS.ok ⟨s, a, none⟩ := fun c i h => by cases h
theorem ok_some (s : ByteArray) (a : Nat) (c : Int) (i : Nat) (hc : c ≠ 0) : RS.ok ⟨s, a, some (c, i)⟩ := fun c' i' h => by
  have e := Option.some.inj h
  have e2 : c = c' := congrArg Prod.fst e
  rw [← e2]; exact hc
set_option maxHeartbeats 2000000 in
set_option maxRecDepth 100000 in
theorem works_any (w : World) (hg : HG w) : Calls Tryd.prog 7 #[] w fun e w' => e = .returned (.bool true) ∧ Below w.heap.size w w' := by
  have HG0 := Lib.hid hg
  clear hg
  go_enter Tryd.func7, Tryd.ntmps7
  go_wp2_with fail
  refine (ws_new w).mono ?_
  rintro e w1 ⟨p, rfl, hw, _⟩
  have H1 := Lib.hid hw
  clear hw
  go_wp2_with fail
  refine (ws_u32 H1.out [1, 4294967295] _ _ rfl _ rfl 2 rfl (by decide)).mono ?_
  rintro e w2 ⟨⟨v2, rfl⟩, hw, _⟩
  have H2 := Lib.hid hw
  clear hw H1
  go_wp2_with fail
  refine (ws_u8 H2.out 7 _ _ rfl (by decide)).mono ?_
  rintro e w3 ⟨⟨v3, rfl⟩, hw, _⟩
  have H3 := Lib.hid hw
  clear hw H2
  go_wp2_with fail
  refine (ws_i64 H3.out [-2] _ _ rfl _ rfl 1 rfl (by decide)).mono ?_
  rintro e w4 ⟨⟨v4, rfl⟩, hw, _⟩
  rw [sl_bytes] at hw
  have H4 := Lib.hid hw
  clear hw H3
  go_wp2_with fail
  refine (read_any true ba5 w4 (by decide)).mono ?_
  rintro e w5 ⟨q1, rfl, hr1, hq1, hb⟩
  have H5 := Lib.hid (H4.out.later hb); have HR1 := Lib.hid hr1; have Hb1 := Lib.hid hb
  clear hb hr1
  go_wp2_with fail
  refine (read_any true ba3 w5 (by decide)).mono ?_
  rintro e w6 ⟨q2, rfl, hr2, hq2, hb⟩
  have H6 := Lib.hid (H5.out.later hb); have HR12 := Lib.hid (HR1.out.later hb); have HR2 := Lib.hid hr2; have Hb2 := Lib.hid hb
  clear hb hr2
  go_wp2_with fail
  refine (read_any true ba2 w6 (by decide)).mono ?_
  rintro e w7 ⟨q3, rfl, hr3, hq3, hb⟩
  have hW : W4 w w7 p [1, 0, 0, 0, 255, 255, 255, 255, 7, 254, 255, 255, 255, 255, 255, 255, 255] q1 q2 q3 ⟨ba5, 0, none⟩ ⟨ba3, 0, none⟩ ⟨ba2, 0, none⟩ := by
    have s1 := HR1.out.lt
    have s2 := HR2.out.lt
    have s0 := H4.out.below.size
    have s5 := H5.out.below.size
    have s6 := H6.out.below.size
    have t1 := Hb2.out.size
    exact ⟨H6.out.later hb, HR12.out.later hb, HR2.out.later hb, hr3, by omega⟩
  have HW := Lib.hid hW
  clear hW hb hr3 H4 H5 H6 HR1 HR12 HR2 Hb1 Hb2 hq1 hq2 hq3
  go_wp2_with fail
  refine (rU32_is (R' := ⟨ba5, 4, none⟩) (n := 5) HW.out.r1 (by kernel_rfl) (by kernel_rfl)).mono ?_
  rintro e wa ⟨rfl, ho⟩
  have HWa := Lib.hid (HW.out.on1 ho)
  clear ho HW
  go_wp2_with fail
  refine (rText_is (R' := ⟨ba5, 5, none⟩) (s := ⟨#[97]⟩) HWa.out.r1 1 (by decide) (by kernel_rfl) (by kernel_rfl)).mono ?_
  rintro e wb ⟨rfl, ho⟩
  have HWb := Lib.hid (HWa.out.on1 ho)
  clear ho HWa
  go_wp2_with fail
  refine (end_at HWb.out.r1 (ok_none _ _) 0 0 (by kernel_rfl)).mono ?_
  rintro e wc ⟨v, rfl, _, hv, hb⟩
  obtain rfl := hv rfl
  have HWc := Lib.hid (HWb.out.later hb)
  clear hb HWb hv
  go_wp2_with fail
  refine (rU8_is (R' := ⟨ba3, 1, none⟩) (n := 1) HWc.out.r2 (by kernel_rfl) (by kernel_rfl)).mono ?_
  rintro e wd ⟨rfl, ho⟩
  have HWd := Lib.hid (HWc.out.on2 ho)
  clear ho HWc
  go_wp2_with fail
  refine (rU32_is (R' := ⟨ba3, 1, some (3, 1)⟩) (n := 0) HWd.out.r2 (by kernel_rfl) (by kernel_rfl)).mono ?_
  rintro e we ⟨rfl, ho⟩
  have HWe := Lib.hid (HWd.out.on2 ho)
  clear ho HWd
  go_wp2_with fail
  refine (rU8_is (R' := ⟨ba3, 1, some (3, 1)⟩) (n := 0) HWe.out.r2 (by kernel_rfl) (by kernel_rfl)).mono ?_
  rintro e wf ⟨rfl, ho⟩
  have HWf := Lib.hid (HWe.out.on2 ho)
  clear ho HWe
  go_wp2_with fail
  refine (end_at HWf.out.r2 (ok_some _ _ _ _ (by decide)) 3 1 (by kernel_rfl)).mono ?_
  rintro e wg ⟨v, rfl, hv, _, hb⟩
  have HWg := Lib.hid (HWf.out.later hb); have HV := Lib.hid hv
  clear hb HWf hv
  go_wp2_with fail
  refine (lawTold_is wg v 3 0 1 0 (HG0.out.later HWg.out.ws.below) HV.out).mono ?_
  rintro e wh ⟨rfl, hb⟩
  have HWh := Lib.hid (HWg.out.later hb)
  clear hb HWg HV
  go_wp2_with fail
  refine (ws_str HWh.out.ws).mono ?_
  rintro e wi ⟨rfl, rfl⟩
  go_wp2_with fail
  refine (rU8_is (R' := ⟨ba2, 1, none⟩) (n := 1) HWh.out.r3 (by kernel_rfl) (by kernel_rfl)).mono ?_
  rintro e wj ⟨rfl, ho⟩
  have HWj := Lib.hid (HWh.out.on3 ho)
  clear ho HWh
  go_wp2_with fail
  refine (end_at HWj.out.r3 (ok_none _ _) 4 1 (by kernel_rfl)).mono ?_
  rintro e wk ⟨v, rfl, hv, _, hb⟩
  have HWk := Lib.hid (HWj.out.later hb); have HV := Lib.hid hv
  clear hb HWj hv
  go_wp2_with fail
  refine (lawTold_is wk v 4 0 1 0 (HG0.out.later HWk.out.ws.below) HV.out).mono ?_
  rintro e wl ⟨rfl, hb⟩
  have HWl := Lib.hid (HWk.out.later hb)
  clear hb HWk HV
  go_wp2_with fail
  go_ret
  exact ⟨rfl, HWl.out.ws.below⟩
end Go.Proofs.YtaikcehdomaebaaDoor
