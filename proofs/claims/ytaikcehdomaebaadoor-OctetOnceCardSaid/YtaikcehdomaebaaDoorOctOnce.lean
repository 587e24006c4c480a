/- OctetOnce: the walk. -/
import Derived.Test.YtaikcehdomaebaaDoorOctItem
import Derived.Test.YtaikcehdomaebaaDoorOctTwo
import Derived.Test.YtaikcehdomaebaaDoorOctPlain
import Derived.Test.YtaikcehdomaebaaDoorRead
import Derived.Deep.RegionHeld3
namespace Go.Proofs.YtaikcehdomaebaaDoor
open Go.RowKit
theorem put32_none (p : Nat) (a : Option Addr) (c : Nat) (n : Int) (w : World) : Calls Tryd.prog 31 #[.pointer (some ⟨p, 0, none⟩), .int .i64 n, .slice a 0 c] w fun e w' => (∃ x, e = .returned x) ∧ w = w' := by
  go_enter Tryd.func31, Tryd.ntmps31
  go_wp2_with fail
  refine wp_loop_rounds 1 ?_
  rw [rounds_succ]
  go_wp2_with fail
  go_end0
  exact ⟨⟨_, rfl⟩, rfl⟩
theorem putI64_none (p : Nat) (a : Option Addr) (c : Nat) (n : Int) (w : World) : Calls Tryd.prog 32 #[.pointer (some ⟨p, 0, none⟩), .int .i64 n, .slice a 0 c] w fun e w' => (∃ x, e = .returned x) ∧ w = w' := by
  go_enter Tryd.func32, Tryd.ntmps32
  go_wp2_with fail
  refine wp_loop_rounds 1 ?_
  rw [rounds_succ]
  go_wp2_with fail
  go_end0
  exact ⟨⟨_, rfl⟩, rfl⟩
theorem Wr.on_same {w : World} {p : Nat} {l : List UInt8} {F : Nat → Prop} (h : Wr w p l F) : WrOn w p l F w := ⟨F, h, Kept.refl _ _, fun _ hb => .inl hb⟩
/-- numbers that came in, at once -/
theorem wU32_arg (p : Nat) (l : List UInt8) (F : Nat → Prop) (vs : Value) (ns : List Int) (w : World) (B : Nat) (h : Wr w p l F) (hF : ∀ b, F b → B ≤ b) (hs : SlI w vs .u32 ns) (hlt : 0 < ns.length → ∀ b, vs.ownBlock = some b → b < B) (hl : l.length + 8 * ns.length ≤ 1099511627776) :
    Calls Tryd.prog 9 #[.pointer (some ⟨p, 0, none⟩), vs] w fun e w' => (∃ v, e = .returned v) ∧ WrOn w p (l ++ ns.flatMap (fun x => leb (n64 x) 4)) F w' := by
  cases ns with
  | nil =>
    obtain ⟨a, c, rfl, _⟩ := hs
    have C := Lib.hid (fun n => put32_none p a c n w)
    have HO := Lib.hid h.on_same
    clear h hF hlt
    go_enter Tryd.func9, Tryd.ntmps9
    go_wp2_with fail
    refine (C.out _).mono ?_
    rintro e w' ⟨⟨x, rfl⟩, rfl⟩
    go_wp2_with fail
    go_end0
    exact ⟨⟨_, rfl⟩, by simpa using HO.out⟩
  | cons x ns => exact wU32_sl p l F vs (x :: ns) w h hs hl (fun b hb hf => by have := hF b hf; have := hlt (by simp) b hb; omega)
theorem wI64_arg (p : Nat) (l : List UInt8) (F : Nat → Prop) (vs : Value) (ns : List Int) (w : World) (B : Nat) (h : Wr w p l F) (hF : ∀ b, F b → B ≤ b) (hs : SlI w vs .i64 ns) (hlt : 0 < ns.length → ∀ b, vs.ownBlock = some b → b < B) (hl : l.length + 8 * ns.length ≤ 1099511627776) :
    Calls Tryd.prog 11 #[.pointer (some ⟨p, 0, none⟩), vs] w fun e w' => (∃ v, e = .returned v) ∧ WrOn w p (l ++ ns.flatMap (fun x => leb (n64 x) 8)) F w' := by
  cases ns with
  | nil =>
    obtain ⟨a, c, rfl, _⟩ := hs
    have C := Lib.hid (fun n => putI64_none p a c n w)
    have HO := Lib.hid h.on_same
    clear h hF hlt
    go_enter Tryd.func11, Tryd.ntmps11
    go_wp2_with fail
    refine (C.out _).mono ?_
    rintro e w' ⟨⟨x, rfl⟩, rfl⟩
    go_wp2_with fail
    go_end0
    exact ⟨⟨_, rfl⟩, by simpa using HO.out⟩
  | cons x ns => exact wI64_sl p l F vs (x :: ns) w h hs hl (fun b hb hf => by have := hF b hf; have := hlt (by simp) b hb; omega)
theorem SlI.take {w : World} {a : Option Addr} {n cap : Nat} {k : IntKind} {l : List Int} (h : SlI w (.slice a n cap) k l) (m : Nat) (hm : m ≤ n) : ∃ L : List Int, L = l.take m ∧ L.length = m ∧ SlI w (.slice a m cap) k L := by
  obtain ⟨a', cap', e, h1, h2, h3⟩ := h
  simp only [Value.slice.injEq] at e
  obtain ⟨rfl, rfl, rfl⟩ := e
  have hl : (l.take m).length = m := by simp; omega
  refine ⟨_, rfl, hl, a, cap, by rw [hl], by omega, h2, fun i hi => ?_⟩
  obtain ⟨b, off, rfl, hc⟩ := h3 i (by omega)
  exact ⟨b, off, rfl, by simpa using hc⟩
section
variable {w0 w : World} {p1 p2 : Nat} {l1 l2 : List UInt8}
theorem two_u32_arg (h : Two w0 w p1 l1 p2 l2 none) (vs : Value) (ns : List Int) (hs : SlI w0 vs .u32 ns) (hl : l1.length + 8 * ns.length ≤ 1000000) :
    Calls Tryd.prog 9 #[.pointer (some ⟨p1, 0, none⟩), vs] w fun e w' => (∃ v, e = .returned v) ∧ Two w0 w' p1 (l1 ++ ns.flatMap (fun x => leb (n64 x) 4)) p2 l2 none := by
  obtain ⟨F1, F2, h1, h2, hd, b1, b2, hB, ht⟩ := h
  refine (wU32_arg p1 l1 F1 vs ns w w0.heap.size h1 b1 (hs.below hB) (fun h => hs.lt h) (by omega)).mono ?_
  rintro e w' ⟨he, hon⟩
  exact ⟨he, Two.fst h2 hd b1 b2 hB ht hon⟩
theorem two_i64_arg (h : Two w0 w p1 l1 p2 l2 none) (vs : Value) (ns : List Int) (hs : SlI w0 vs .i64 ns) (hl : l1.length + 8 * ns.length ≤ 1000000) :
    Calls Tryd.prog 11 #[.pointer (some ⟨p1, 0, none⟩), vs] w fun e w' => (∃ v, e = .returned v) ∧ Two w0 w' p1 (l1 ++ ns.flatMap (fun x => leb (n64 x) 8)) p2 l2 none := by
  obtain ⟨F1, F2, h1, h2, hd, b1, b2, hB, ht⟩ := h
  refine (wI64_arg p1 l1 F1 vs ns w w0.heap.size h1 b1 (hs.below hB) (fun h => hs.lt h) (by omega)).mono ?_
  rintro e w' ⟨he, hon⟩
  exact ⟨he, Two.fst h2 hd b1 b2 hB ht hon⟩
theorem two_u32' (h : Two w0 w p1 l1 p2 l2 none) (x : Int) (t : TypeId) (g : Nat) (hg : w.heap.size = g) (hl : l2.length ≤ 1000000000) :
    Calls Tryd.prog 9 #[.pointer (some ⟨p2, 0, none⟩), .slice (some ⟨g, 0, none⟩) 1 1] (w.alloc (.cells #[.int .u32 x] t)) fun e w' => (∃ v, e = .returned v) ∧ Two w0 w' p1 l1 p2 (l2 ++ leb (n64 x) 4) none := by
  subst hg
  have ha := (Below.refl w.heap.size w).alloc (Nat.le_refl _) (.cells #[.int .u32 x] t)
  obtain ⟨F1, F2, h1, h2, hd, b1, b2, hB, ht⟩ := h
  refine (wU32_any p2 l2 F2 w.heap.size x t (0, 0) _ (h2.later ha) (Blk.new _ _ _ _) (fun hf => by have := h2.lt _ hf; omega) hl).mono ?_
  rintro e w' ⟨he, hon⟩
  exact ⟨he, Two.snd (h1.later ha) hd b1 b2 (hB.trans (ha.mono hB.size)) (fun X cs t e => by cases e) hon⟩
theorem two_u64' (h : Two w0 w p1 l1 p2 l2 none) (x : Int) (hx : 0 ≤ x ∧ x < 18446744073709551616) (t : TypeId) (g : Nat) (hg : w.heap.size = g) (hl : l2.length ≤ 1000000000) :
    Calls Tryd.prog 12 #[.pointer (some ⟨p2, 0, none⟩), .slice (some ⟨g, 0, none⟩) 1 1] (w.alloc (.cells #[.int .u64 x] t)) fun e w' => (∃ v, e = .returned v) ∧ Two w0 w' p1 l1 p2 (l2 ++ leb (n64 x) 8) none := by
  subst hg
  have ha := (Below.refl w.heap.size w).alloc (Nat.le_refl _) (.cells #[.int .u64 x] t)
  obtain ⟨F1, F2, h1, h2, hd, b1, b2, hB, ht⟩ := h
  refine (wU64_any p2 l2 F2 w.heap.size x hx t (0, 0) _ (h2.later ha) (Blk.new _ _ _ _) (fun hf => by have := h2.lt _ hf; omega) hl).mono ?_
  rintro e w' ⟨he, hon⟩
  exact ⟨he, Two.snd (h1.later ha) hd b1 b2 (hB.trans (ha.mono hB.size)) (fun X cs t e => by cases e) hon⟩
theorem two_str1 (h : Two w0 w p1 l1 p2 l2 none) : Calls Tryd.prog 10 #[.pointer (some ⟨p1, 0, none⟩)] w fun e w' => e = .returned (.string ⟨l1.toArray⟩) ∧ w = w' := by
  obtain ⟨F1, F2, h1, h2, hd, b1, b2, hB, ht⟩ := h; exact str_any p1 l1 F1 w h1
theorem two_str2 (h : Two w0 w p1 l1 p2 l2 none) : Calls Tryd.prog 10 #[.pointer (some ⟨p2, 0, none⟩)] w fun e w' => e = .returned (.string ⟨l2.toArray⟩) ∧ w = w' := by
  obtain ⟨F1, F2, h1, h2, hd, b1, b2, hB, ht⟩ := h; exact str_any p2 l2 F2 w h2
theorem two_new (h0 : Below w0.heap.size w0 w) : Calls Tryd.prog 8 #[] w fun e w1 => ∃ p, e = .returned (.pointer (some ⟨p, 0, none⟩)) ∧ WS w0 w1 p [] ∧ Below w.heap.size w w1 := by
  refine (octNew_any w).mono ?_
  rintro e w' ⟨p, rfl, h1, h2, hb⟩
  have := h0.size
  exact ⟨p, rfl, ⟨_, h1, fun b hb => by omega, h0.next' hb⟩, hb⟩
end
def f4 (L : List Int) : List UInt8 := L.flatMap (fun x => leb (n64 x) 4)
def f8 (L : List Int) : List UInt8 := L.flatMap (fun x => leb (n64 x) 8)
theorem f4_len (L : List Int) : (f4 L).length = 4 * L.length := by
  unfold f4
  induction L with
  | nil => rfl
  | cons x L ih => rw [List.flatMap_cons, List.length_append, leb_length, ih, List.length_cons]; omega
theorem f8_len (L : List Int) : (f8 L).length = 8 * L.length := by
  unfold f8
  induction L with
  | nil => rfl
  | cons x L ih => rw [List.flatMap_cons, List.length_append, leb_length, ih, List.length_cons]; omega
theorem f4_succ (L : List Int) (k : Nat) (hk : k < L.length) : f4 (L.take (k + 1)) = f4 (L.take k) ++ leb (n64 L[k]) 4 := by
  unfold f4
  rw [List.take_succ_eq_append_getElem hk, List.flatMap_append]
  simp
theorem f8_succ (L : List Int) (k : Nat) (hk : k < L.length) : f8 (L.take (k + 1)) = f8 (L.take k) ++ leb (n64 L[k]) 8 := by
  unfold f8
  rw [List.take_succ_eq_append_getElem hk, List.flatMap_append]
  simp
theorem n64_u64 (x : Int) : n64 (IntKind.u64.wrap x) = n64 x := by
  rw [n64_wrap, n64_nat _ (n64_lt x)]
/-- a reader over numbers -/
theorem read_f4 (L : List Int) (t : List UInt8) (S : ByteArray) (hS : S.data.toList = f4 L ++ t) (k : Nat) (hk : k < L.length) (hL : ∀ x ∈ L, 0 ≤ x ∧ x < 4294967296) :
    RS.num ⟨S, 4 * k, none⟩ 4 = (n64 L[k], ⟨S, 4 * (k + 1), none⟩) ∧ ((n64 L[k] : Nat) : Int) = L[k] := by
  have hx := hL _ (List.getElem_mem hk)
  have hd : S.data.toList.drop (4 * k) = leb (n64 L[k]) 4 ++ (f4 (L.drop (k + 1)) ++ t) := by
    have e : f4 L = f4 (L.take k) ++ (leb (n64 L[k]) 4 ++ f4 (L.drop (k + 1))) := by
      have h : L = L.take k ++ (L[k] :: L.drop (k + 1)) := by rw [← List.drop_eq_getElem_cons hk, List.take_append_drop]
      have h2 : ∀ a b : List Int, f4 (a ++ b) = f4 a ++ f4 b := fun a b => by unfold f4; rw [List.flatMap_append]
      conv => lhs; rw [h]
      rw [h2]
      rfl
    rw [hS, e, List.append_assoc, List.drop_left' (by rw [f4_len, List.length_take]; omega), List.append_assoc]
  obtain ⟨N, hN⟩ := Int.eq_ofNat_of_zero_le hx.1
  have hn : n64 L[k] = N := by rw [hN, n64_nat N (by omega)]
  have hsz : 4 * k ≤ S.size := by
    have h := congrArg List.length hS
    rw [ba_size, List.length_append, f4_len] at h
    omega
  refine ⟨?_, by rw [hn, hN]⟩
  rw [RS.num_fwd (R := ⟨S, 4 * k, none⟩) rfl hd hsz (by rw [hn]; show N < 4294967296; omega)]
  rfl
/-- two writers of the same octets, and a reader -/
structure O3 (w0 w : World) (p1 p2 : Nat) (l : List UInt8) (q : Nat) (R : RS) : Prop where
  a : WS w0 w p1 l
  b : WS w0 w p2 l
  ro : Ro true w q R
  hq : w0.heap.size ≤ q
section
variable {w0 w w' : World} {p1 p2 q : Nat} {l : List UInt8} {R R' : RS}
theorem O3.later (h : O3 w0 w p1 p2 l q R) (hb : Below w.heap.size w w') : O3 w0 w' p1 p2 l q R := ⟨h.a.later hb, h.b.later hb, h.ro.later hb, h.hq⟩
theorem O3.on (h : O3 w0 w p1 p2 l q R) (ho : RoOn true w q R' w') : O3 w0 w' p1 p2 l q R' := ⟨h.a.reads h.ro h.hq ho.2, h.b.reads h.ro h.hq ho.2, ho.1, h.hq⟩
theorem Two.o3 (h : Two w0 w p1 l p2 l none) (hb : Below w.heap.size w w') (hr : Ro true w' q R) (hq : w.heap.size ≤ q) : O3 w0 w' p1 p2 l q R := by
  obtain ⟨F1, F2, h1, h2, hd, b1, b2, hB, ht⟩ := h
  have := hB.size
  exact ⟨⟨F1, h1.later hb, b1, hB.next' hb⟩, ⟨F2, h2.later hb, b2, hB.next' hb⟩, hr, by omega⟩
end
set_option maxHeartbeats 4000000 in
set_option maxRecDepth 100000 in
theorem octetOnce_any (va vb : Value) (La Lb : List Int) (w : World) (ha : SlI w va .u32 La) (hb : SlI w vb .i64 Lb) (hwa : ∀ x ∈ La, 0 ≤ x ∧ x < 4294967296) (hg : HG w) :
    Calls Tryd.prog 3 #[va, vb] w fun e w' => e = .returned (.bool true) ∧ Below w.heap.size w w' := by
  obtain ⟨aa, ca, rfl, na, ma, _⟩ := id ha
  obtain ⟨ab, cb, rfl, nb, mb, _⟩ := id hb
  obtain ⟨n, hn⟩ : ∃ n, n = min La.length 10 := ⟨_, rfl⟩
  obtain ⟨m, hm⟩ : ∃ m, m = min Lb.length 10 := ⟨_, rfl⟩
  have hmina := fun u => run_min2 (P := Tryd.prog) La.length 10 u #[3, 3] 3 (n : Int) (by omega)
  have hminb := fun u => run_min2 (P := Tryd.prog) Lb.length 10 u #[3, 3] 3 (m : Int) (by omega)
  have hsla := run_slice_to (P := Tryd.prog) 22 30 aa La.length ca n Tryd.underlying22 (by kernel_rfl) (by omega)
  have hslb := run_slice_to (P := Tryd.prog) 23 2 ab Lb.length cb m Tryd.underlying23 (by kernel_rfl) (by omega)
  obtain ⟨A, hA, hAl, hAs⟩ := ha.take n (by omega)
  obtain ⟨B, hB, hBl, hBs⟩ := hb.take m (by omega)
  have hwA : ∀ x ∈ A, 0 ≤ x ∧ x < 4294967296 := fun x hx => hwa x (List.mem_of_mem_take (by rw [← hA]; exact hx))
  have hn10 : n ≤ 10 := by omega
  have hm10 : m ≤ 10 := by omega
  have HA := Lib.hid hAs; have HB := Lib.hid hBs; have HWA := Lib.hid hwA; have HAl := Lib.hid hAl; have HBl := Lib.hid hBl; have HG0 := Lib.hid hg
  clear ha hb hwa hn hm hA hB hAl hBl hAs hBs hwA hg
  go_enter Tryd.func3, Tryd.ntmps3
  go_wp2_with fail
  refine (works_any w HG0.out).mono ?_
  rintro e w1 ⟨rfl, hb⟩
  have HB1 := Lib.hid hb
  clear hb
  go_wp2_with fail
  go_quiet (fail)
  have HB2 : Hid (Below w.heap.size w (w1.drewN nq)) := Lib.hid ⟨HB1.out.os, HB1.out.tape, HB1.out.output, HB1.out.size, HB1.out.block⟩
  generalize w1.drewN nq = w2 at *
  clear hmina hminb hsla hslb HB1
  go_wp2_with fail
  refine (two_new HB2.out).mono ?_
  rintro e w3 ⟨p1, rfl, hw1, hb3⟩
  have HW1 := Lib.hid hw1; have HB3 := Lib.hid (HB2.out.next' hb3)
  clear hw1 hb3 HB2
  go_wp2_with fail
  refine (octNew_any w3).mono ?_
  rintro e w4 ⟨p2, rfl, hw2, hp2, hb4⟩
  have hT : Two w w4 p1 [] p2 [] none := by
    obtain ⟨F, h1, h2, h3⟩ := HW1.out
    have hs := h3.size
    refine ⟨F, _, h1.later hb4, hw2, fun b hb hb' => ?_, h2, fun b hb => by omega, h3.next' hb4, fun X cs t e => by cases e⟩
    have := h1.lt b hb; omega
  have HT := Lib.hid hT
  clear hT hw2 hp2 hb4 HW1 HB3
  go_wp2_with fail
  refine (two_u32_arg HT.out _ A HA.out (by rw [HAl.out]; simp; omega)).mono ?_
  rintro e w5 ⟨⟨x5, rfl⟩, ht⟩
  have HT5 : Hid (Two w w5 p1 (f4 A) p2 [] none) := Lib.hid (by unfold f4; simpa using ht)
  clear ht HT
  go_wp2_with fail
  refine (two_str1 HT5.out).mono ?_
  rintro e w' ⟨rfl, rfl⟩
  go_wp2_with fail
  refine (two_i64_arg HT5.out _ B HB.out (by rw [HBl.out, f4_len, HAl.out]; omega)).mono ?_
  rintro e w6 ⟨⟨x6, rfl⟩, ht⟩
  have HT6 : Hid (Two w w6 p1 (f4 A ++ f8 B) p2 [] none) := Lib.hid ht
  clear ht HT5
  go_wp2_with fail
  go_loopw [8] (fun i wr => ∃ k : Nat, k ≤ n ∧ i = .int .i64 k ∧ Hid (Two w wr p1 (f4 A ++ f8 B) p2 (f4 (A.take k)) none)) (fun i _ => n - (intOf i).toNat)
  case atStart => exact ⟨0, Nat.zero_le _, rfl, HT6⟩
  case round =>
    clear HT6
    obtain ⟨k, hk, rfl, hrel⟩ := hrel
    by_cases hlt : k < n
    · have hkA : k < A.length := by rw [HAl.out]; exact hlt
      obtain ⟨ba, oa, ha0, hc⟩ : ∃ ba oa, aa = some ⟨ba, oa, none⟩ ∧ wr.cell? ⟨ba, oa + k, none⟩ = some (.int .u32 A[k]) := by
        obtain ⟨a', c', e, _, _, hh⟩ := HA.out.below hrel.out.below
        obtain ⟨bl, ol, e2, q1⟩ := hh k hkA
        have e3 := (Value.slice.inj e).1
        exact ⟨bl, ol, by rw [e3, e2], q1⟩
      subst ha0
      have hsu := f4_succ A k hkA
      have hl := f4_len (A.take k)
      have hl2 : (A.take k).length ≤ 10 := by rw [List.length_take]; omega
      generalize A[k] = x at *
      have HSu := Lib.hid hsu; have HL := Lib.hid hl
      clear hsu hl
      go_wp2_with fail
      refine (two_u32' hrel.out x _ _ rfl (by rw [HL.out]; omega)).mono ?_
      rintro e wa ⟨⟨xa, rfl⟩, ht⟩
      rw [← HSu.out] at ht
      have HTa := Lib.hid ht
      clear ht hrel
      go_wp2_with fail
      go_roundw
      case rel => exact ⟨k + 1, by omega, by go_num, HTa⟩
      case measure => simp [intOf]; omega
    · obtain rfl : n = k := by omega
      rw [List.take_of_length_le (by rw [HAl.out]; exact Nat.le_refl _)] at hrel
      go_wp2_with fail
      have HR := Lib.hid hrel.out
      clear hrel
      go_loopw [9] (fun i wr => ∃ k : Nat, k ≤ m ∧ i = .int .i64 k ∧ Hid (Two w wr p1 (f4 A ++ f8 B) p2 (f4 A ++ f8 (B.take k)) none)) (fun i _ => m - (intOf i).toNat)
      case atStart => exact ⟨0, Nat.zero_le _, rfl, Lib.hid (by have := HR.out; unfold f8 at *; simpa using this)⟩
      case round =>
        clear HR
        obtain ⟨k, hk, rfl, hrel⟩ := hrel
        by_cases hlt : k < m
        · have hkB : k < B.length := by rw [HBl.out]; exact hlt
          obtain ⟨ba, oa, ha0, hc⟩ : ∃ ba oa, ab = some ⟨ba, oa, none⟩ ∧ wr.cell? ⟨ba, oa + k, none⟩ = some (.int .i64 B[k]) := by
            obtain ⟨a', c', e, _, _, hh⟩ := HB.out.below hrel.out.below
            obtain ⟨bl, ol, e2, q1⟩ := hh k hkB
            have e3 := (Value.slice.inj e).1
            exact ⟨bl, ol, by rw [e3, e2], q1⟩
          subst ha0
          have hsu := f8_succ B k hkB
          have hl := f8_len (B.take k)
          have hl2 : (B.take k).length ≤ 10 := by rw [List.length_take]; omega
          have hl3 := f4_len A
          generalize B[k] = x at *
          have HSu := Lib.hid hsu; have HL := Lib.hid hl; have HL3 := Lib.hid hl3
          have hwx := u64_wrap_bd x
          obtain ⟨y, hy⟩ : ∃ y, y = IntKind.u64.wrap x := ⟨_, rfl⟩
          have e1 : IntKind.u64.wrap x = y := hy.symm
          have e2 : x % 18446744073709551616 = y := by rw [hy]; simp [IntKind.wrap, IntKind.signed, IntKind.bits]
          have Hy := Lib.hid hy
          rw [← hy] at hwx
          clear hsu hl hl3 hy
          go_wp2_with fail
          refine (two_u64' hrel.out y hwx _ _ rfl (by rw [List.length_append, HL.out, HL3.out, HAl.out]; omega)).mono ?_
          rintro e wa ⟨⟨xa, rfl⟩, ht⟩
          rw [Hy.out, n64_u64, List.append_assoc, ← HSu.out] at ht
          have HTa := Lib.hid ht
          clear ht hrel
          go_wp2_with fail
          go_roundw
          case rel => exact ⟨k + 1, by omega, by go_num, HTa⟩
          case measure => simp [intOf]; omega
        · obtain rfl : m = k := by omega
          rw [List.take_of_length_le (by rw [HBl.out]; exact Nat.le_refl _)] at hrel
          have hl4 := f4_len A
          rw [HAl.out] at hl4
          obtain ⟨S, hS⟩ : ∃ S : ByteArray, S = ⟨(f4 A).toArray⟩ ++ ⟨#[1, 2]⟩ := ⟨_, rfl⟩
          have hSl : S.data.toList = f4 A ++ [1, 2] := by rw [hS]; simp
          have hSs : S.size = 4 * n + 2 := by rw [← ba_size, hSl, List.length_append, hl4]; rfl
          have HS := Lib.hid hS; have HSl := Lib.hid hSl; have HSs := Lib.hid hSs
          obtain ⟨T0, hT0⟩ : ∃ T0 : ByteArray, T0 = ⟨(f4 A).toArray⟩ := ⟨_, rfl⟩
          have hT0s : T0.size = 4 * n := by rw [hT0]; exact hl4
          have e1 : T0 ++ ⟨#[1, 2]⟩ = S := by rw [hT0, hS]
          rw [← hT0]
          have hcc : ¬ 9223372036854775807 < T0.size + 2 := by omega
          have h4n : IntKind.i64.wrap (4 * (n : Int)) = 4 * (n : Int) := wrap_small _ (by omega) (by omega)
          have hT0i : (T0.size : Int) = 4 * (n : Int) := by omega
          have HT0i := Lib.hid hT0i
          clear hl4 hS hSl hSs hT0 hT0s hT0i
          have H0 := Lib.hid hrel.out
          clear hrel
          go_wp2_with fail
          refine (read_any true S _ (by rw [HSs.out]; omega)).mono ?_
          rintro e w7 ⟨q, rfl, hr, hq, hb7⟩
          have HO := Lib.hid (H0.out.o3 hb7 hr hq)
          clear H0 hb7 hr hq
          go_wp2_with fail
          go_loopw [11] (fun i wr => ∃ k : Nat, k ≤ n ∧ i = .int .i64 k ∧ Hid (O3 w wr p1 p2 (f4 A ++ f8 B) q ⟨S, 4 * k, none⟩)) (fun i _ => n - (intOf i).toNat)
          case atStart => exact ⟨0, Nat.zero_le _, rfl, HO⟩
          case round =>
            clear HO
            obtain ⟨k, hk, rfl, hrel⟩ := hrel
            by_cases hlt : k < n
            · have hkA : k < A.length := by rw [HAl.out]; exact hlt
              obtain ⟨ba, oa, ha0, hc⟩ : ∃ ba oa, aa = some ⟨ba, oa, none⟩ ∧ ∀ u, Below w.heap.size w u → u.cell? ⟨ba, oa + k, none⟩ = some (.int .u32 A[k]) := by
                obtain ⟨a', c', e, _, _, hh⟩ := HA.out
                obtain ⟨bl, ol, e2, q1⟩ := hh k hkA
                have e3 := (Value.slice.inj e).1
                exact ⟨bl, ol, by rw [e3, e2], fun u hu => (World.cell?_of_block (hu.block bl (block_lt_of_cell q1))).trans q1⟩
              subst ha0
              obtain ⟨f1, f2⟩ := read_f4 A [1, 2] S HSl.out k hkA HWA.out
              have CU : ∀ u, O3 w u p1 p2 (f4 A ++ f8 B) q ⟨S, 4 * k, none⟩ → Calls Tryd.prog 14 #[.pointer (some ⟨q, 0, none⟩)] u fun e w' => e = .returned (.int .u32 A[k]) ∧ O3 w w' p1 p2 (f4 A ++ f8 B) q ⟨S, 4 * (k + 1), none⟩ := fun u hu => by
                refine (rU32_is (n := n64 A[k]) (R' := ⟨S, 4 * (k + 1), none⟩) hu.ro (by rw [f1]) (by rw [f1])).mono ?_
                rintro e w' ⟨rfl, ho⟩
                exact ⟨by rw [f2], hu.on ho⟩
              generalize A[k] = x at *
              have HC := Lib.hid hc; have HCU := Lib.hid CU
              have HR : Hid (O3 w wr.drew p1 p2 (f4 A ++ f8 B) q ⟨S, 4 * k, none⟩) := Lib.hid (hrel.out.later (Below.refl _ _).drew)
              have hc0 := hc wr hrel.out.a.below
              have i1 : (0 : Int) ≤ (k : Int) := by omega
              have i2 : (k : Int) < (n : Int) := by omega
              clear hc CU f1 f2
              go_wp2_with fail
              go_region_held3 (fun w' => w'.cell? ⟨ba, oa + k, none⟩ = some (.int .u32 x))
                (first | exact HC.out _ HZ.out.a.below | exact HC.out _ HR.out.a.below | exact hc0)
                ((go_at_call 14; (with_reducible refine (HCU.out _ HR.out).mono ?_); rintro e w' ⟨rfl, hz⟩; have HZ := Lib.hid hz))
              go_wp2_with fail
              go_roundw
              case rel => exact ⟨k + 1, by omega, by go_num, HZ⟩
              case measure => simp [intOf]; omega
            · obtain rfl : n = k := by omega
              have f1 : RS.take ⟨S, 4 * n, none⟩ 8 = (⟨#[]⟩, ⟨S, 4 * n, some (3, 4 * n)⟩) := RS.take_short rfl (by omega) (by rw [HSs.out]; show ((4 * n + 2 : Nat) : Int) - ((4 * n : Nat) : Int) < 8; omega)
              have f2 : (RS.num ⟨S, 4 * n, none⟩ 8).2 = ⟨S, 4 * n, some (3, 4 * n)⟩ := by unfold RS.num; show (RS.take ⟨S, 4 * n, none⟩ 8).2 = _; rw [f1]
              have hok : RS.ok ⟨S, 4 * n, some (3, 4 * n)⟩ := ok_some _ _ _ _ (by decide)
              have HF2 := Lib.hid f2; have HOk := Lib.hid hok
              clear f1 f2 hok
              go_wp2_with fail
              refine (rU64_is hrel.out.ro rfl HF2.out).mono ?_
              rintro e w8 ⟨rfl, ho⟩
              have H8 := Lib.hid (hrel.out.on ho)
              clear hrel ho
              go_wp2_with fail
              refine (err_at H8.out.ro HOk.out 3 (4 * n) rfl).mono ?_
              rintro e w9 ⟨v, rfl, hv, _, hb⟩
              have H9 := Lib.hid (H8.out.later hb); have HV := Lib.hid hv
              clear H8 hv hb
              go_wp2_with fail
              refine (told_is w9 v 3 0 ((4 * n : Nat) : Int) 0 (HG0.out.later H9.out.a.below) HV.out).mono ?_
              rintro e w10 ⟨rfl, hb⟩
              have H10 := Lib.hid (H9.out.later hb)
              clear H9 HV hb
              have hT : T0.size = 4 * n := by have := HT0i.out; omega
              have heq : ((T0.size : Int) == 4 * (n : Int)) = true := by rw [beq_iff_eq]; exact HT0i.out
              have HT := Lib.hid hT
              clear hT
              have HA12 : Hid (∀ o, O3 w (w10.alloc o) p1 p2 (f4 A ++ f8 B) q ⟨S, 4 * n, some (3, 4 * n)⟩) := Lib.hid (fun o => H10.out.later ((Below.refl _ _).alloc (Nat.le_refl _) o))
              clear H10
              go_wp2_with fail
              refine (ws_str (HA12.out _).a).mono ?_
              rintro e w' ⟨rfl, rfl⟩
              go_wp2_with fail
              refine (ws_str (HA12.out _).b).mono ?_
              rintro e w' ⟨rfl, rfl⟩
              have H12 := Lib.hid (HA12.out (.cells #[.int .i64 3, .int .i64 0, .int .i64 (-1), .int .i64 0] 42))
              generalize w10.alloc (.cells #[.int .i64 3, .int .i64 0, .int .i64 (-1), .int .i64 0] 42) = w12 at *
              clear HA12
              go_wp2_with fail
              refine (err_at H12.out.ro HOk.out 3 T0.size (by show ((3 : Int), 4 * n) = _; rw [HT.out])).mono ?_
              rintro e w13 ⟨v2, rfl, hv, _, hb⟩
              have H13 := Lib.hid (H12.out.later hb); have HV := Lib.hid hv
              clear H12 hv hb
              go_wp2_with fail
              refine (lawTold_is w13 v2 3 0 (T0.size : Nat) 0 (HG0.out.later H13.out.a.below) HV.out).mono ?_
              rintro e w14 ⟨rfl, hb⟩
              have H14 := Lib.hid (H13.out.later hb)
              clear hb H13 HV
              go_wp2_with fail
              go_ret
              exact ⟨rfl, H14.out.a.below⟩
theorem octetOnce_rd (va vb : Value) (w : World) (ra : Rd Tryd.prog w 22 [va]) (rb : Rd Tryd.prog w 23 [vb]) (hg : HG w) :
    Calls Tryd.prog 3 #[va, vb] w fun e w' => e = .returned (.bool true) ∧ Below w.heap.size w w' := by
  obtain ⟨La, h1, h2⟩ := Rd.ints Tryd.underlying22 Tryd.underlying30 (by kernel_rfl) ra
  obtain ⟨Lb, h3, _⟩ := Rd.ints Tryd.underlying23 Tryd.underlying2 (by kernel_rfl) rb
  refine octetOnce_any va vb La Lb w h1 h3 (fun x hx => ?_) hg
  have : 0 ≤ x ∧ x ≤ 4294967295 := by simpa [Lit.wf, IntKind.min, IntKind.max, IntKind.signed, IntKind.bits] using h2 x hx
  omega
end Go.Proofs.YtaikcehdomaebaaDoor
