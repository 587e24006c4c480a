/- THE WALKS over frame: Encode. -/
import Derived.Test.YtaikcehdomaebaaOctWU
import Derived.Test.YtaikcehdomaebaaFCrcRef
namespace Go.Proofs.Ytaikcehdomaebaa
open Go.RowKit
/-- v is a slice of the sections L -/
def SlS (w : World) (v : Value) (L : List (Int × ByteArray)) : Prop :=
  ∃ (a : Option Addr) (cap : Nat), v = .slice a L.length cap ∧ L.length ≤ cap ∧ cap ≤ maxLen ∧ ∀ i (h : i < L.length), ∃ b off, a = some ⟨b, off, none⟩ ∧ w.cell? ⟨b, off + i * 2, none⟩ = some (.int .i64 L[i].1) ∧ w.cell? ⟨b, off + i * 2 + 1, none⟩ = some (.string L[i].2)
theorem SlS.later {w w' : World} {v : Value} {L : List (Int × ByteArray)} (h : SlS w v L) (hb : Below w.heap.size w w') : SlS w' v L := by
  obtain ⟨a, cap, rfl, h1, h2, h3⟩ := h
  refine ⟨a, cap, rfl, h1, h2, fun i hi => ?_⟩
  obtain ⟨b, off, rfl, c1, c2⟩ := h3 i hi
  exact ⟨b, off, rfl, (World.cell?_of_block (hb.block b (block_lt_of_cell c1))).trans c1, (World.cell?_of_block (hb.block b (block_lt_of_cell c1))).trans c2⟩
def entS (x : Int × ByteArray) : List UInt8 := leb (n64 x.1) 1 ++ leb x.2.size 8 ++ leb (Crc.sum x.2.data.toList) 4
def headB (L : List (Int × ByteArray)) : List UInt8 := [77, 73, 76, 69, 49, 1] ++ leb L.length 1 ++ L.flatMap entS
def bodyB (L : List (Int × ByteArray)) : List UInt8 := L.flatMap fun x => x.2.data.toList
def encB (L : List (Int × ByteArray)) : List UInt8 := headB L ++ leb (Crc.sum (headB L)) 4 ++ bodyB L
def goodK (x : Int × ByteArray) : Bool := decide (0 ≤ x.1) && decide (x.1 ≤ 255)
def okL (L : List (Int × ByteArray)) : Bool := decide (L.length ≤ 16) && L.all goodK
/-- what Encode answers -/
def encV (L : List (Int × ByteArray)) : Value := if okL L then .tuple #[.string ⟨(encB L).toArray⟩, .int .i64 0] else .tuple #[.string ⟨#[]⟩, .int .i64 2]
theorem entS_length (x : Int × ByteArray) : (entS x).length = 13 := by unfold entS; simp [leb_length]
/-- two writers of our own, and a block that is kept in sight; nothing else turned -/
def Two (w0 w : World) (p1 : Nat) (l1 : List UInt8) (p2 : Nat) (l2 : List UInt8) (tr : Option (Nat × Array Value × TypeId)) : Prop :=
  ∃ F1 F2 : Nat → Prop, Wr w p1 l1 F1 ∧ Wr w p2 l2 F2 ∧ (∀ b, F1 b → ¬ F2 b) ∧ (∀ b, F1 b → w0.heap.size ≤ b) ∧ (∀ b, F2 b → w0.heap.size ≤ b) ∧ Below w0.heap.size w0 w ∧
    ∀ X cs t, tr = some (X, cs, t) → Blk w X cs t (0, 0) ∧ ¬ F1 X ∧ ¬ F2 X
section
variable {w0 w w' : World} {p1 p2 : Nat} {l1 l1' l2 l2' : List UInt8} {tr : Option (Nat × Array Value × TypeId)}
theorem Two.below (h : Two w0 w p1 l1 p2 l2 tr) : Below w0.heap.size w0 w := by obtain ⟨F1, F2, h1, h2, hd, b1, b2, hB, ht⟩ := h; exact hB
theorem Two.blk {X : Nat} {cs : Array Value} {t : TypeId} (h : Two w0 w p1 l1 p2 l2 (some (X, cs, t))) : Blk w X cs t (0, 0) := by obtain ⟨F1, F2, h1, h2, hd, b1, b2, hB, ht⟩ := h; exact (ht X cs t rfl).1
theorem Two.later (h : Two w0 w p1 l1 p2 l2 tr) (hb : Below w.heap.size w w') : Two w0 w' p1 l1 p2 l2 tr := by
  obtain ⟨F1, F2, h1, h2, hd, b1, b2, hB, ht⟩ := h
  exact ⟨F1, F2, h1.later hb, h2.later hb, hd, b1, b2, hB.trans (hb.mono hB.size), fun X cs t e => ⟨(ht X cs t e).1.below hb (ht X cs t e).1.lt, (ht X cs t e).2⟩⟩
theorem Two.forget (h : Two w0 w p1 l1 p2 l2 tr) : Two w0 w p1 l1 p2 l2 none := by
  obtain ⟨F1, F2, h1, h2, hd, b1, b2, hB, ht⟩ := h
  exact ⟨F1, F2, h1, h2, hd, b1, b2, hB, fun X cs t e => by cases e⟩
theorem Two.track (h : Two w0 w p1 l1 p2 l2 none) (cs : Array Value) (t : TypeId) : Two w0 (w.alloc (.cells cs t)) p1 l1 p2 l2 (some (w.heap.size, cs, t)) := by
  have ha := (Below.refl w.heap.size w).alloc (Nat.le_refl _) (.cells cs t)
  obtain ⟨F1, F2, h1, h2, hd, b1, b2, hB, ht⟩ := h
  refine ⟨F1, F2, h1.later ha, h2.later ha, hd, b1, b2, hB.trans (ha.mono hB.size), fun X cs' t' e => ?_⟩
  cases e
  exact ⟨Blk.new _ _ _ _, fun hf => by have := h1.lt _ hf; omega, fun hf => by have := h2.lt _ hf; omega⟩
end
theorem Two.fst {w0 w w' : World} {p1 p2 : Nat} {l1' l2 : List UInt8} {F1 F2 : Nat → Prop} {tr : Option (Nat × Array Value × TypeId)} (h2 : Wr w p2 l2 F2) (hd : ∀ b, F1 b → ¬ F2 b) (b1 : ∀ b, F1 b → w0.heap.size ≤ b) (b2 : ∀ b, F2 b → w0.heap.size ≤ b) (hB : Below w0.heap.size w0 w)
    (ht : ∀ X cs t, tr = some (X, cs, t) → Blk w X cs t (0, 0) ∧ ¬ F1 X ∧ ¬ F2 X) (h : WrOn w p1 l1' F1 w') : Two w0 w' p1 l1' p2 l2 tr := by
  obtain ⟨F', hw, hk, hF⟩ := h
  refine ⟨F', F2, hw, h2.kept hk (fun b hb hf => hd b hf hb), fun b hb hf => ?_, fun b hb => ?_, b2, hB.trans (hk.below hB.size b1), fun X cs t e => ?_⟩
  · rcases hF b hb with h | h
    · exact hd b h hf
    · have := h2.lt b hf; omega
  · rcases hF b hb with h | h
    · exact b1 b h
    · exact Nat.le_trans hB.size h
  · obtain ⟨t1, t2, t3⟩ := ht X cs t e
    refine ⟨hk.blk t1 t2, fun hf => ?_, t3⟩
    rcases hF X hf with h | h
    · exact t2 h
    · have := t1.lt; omega
theorem Two.snd {w0 w w' : World} {p1 p2 : Nat} {l1 l2' : List UInt8} {F1 F2 : Nat → Prop} {tr : Option (Nat × Array Value × TypeId)} (h1 : Wr w p1 l1 F1) (hd : ∀ b, F1 b → ¬ F2 b) (b1 : ∀ b, F1 b → w0.heap.size ≤ b) (b2 : ∀ b, F2 b → w0.heap.size ≤ b) (hB : Below w0.heap.size w0 w)
    (ht : ∀ X cs t, tr = some (X, cs, t) → Blk w X cs t (0, 0) ∧ ¬ F1 X ∧ ¬ F2 X) (h : WrOn w p2 l2' F2 w') : Two w0 w' p1 l1 p2 l2' tr := by
  obtain ⟨F', hw, hk, hF⟩ := h
  refine ⟨F1, F', h1.kept hk (fun b hb hf => hd b hb hf), hw, fun b hf hb => ?_, b1, fun b hb => ?_, hB.trans (hk.below hB.size b2), fun X cs t e => ?_⟩
  · rcases hF b hb with h | h
    · exact hd b hf h
    · have := h1.lt b hf; omega
  · rcases hF b hb with h | h
    · exact b2 b h
    · exact Nat.le_trans hB.size h
  · obtain ⟨t1, t2, t3⟩ := ht X cs t e
    refine ⟨hk.blk t1 t3, t2, fun hf => ?_⟩
    rcases hF X hf with h | h
    · exact t3 h
    · have := t1.lt; omega
/-- the contracts, of two writers -/
theorem two_text1 (w0 w : World) (p1 p2 : Nat) (l1 l2 : List UInt8) (tr : Option (Nat × Array Value × TypeId)) (s : ByteArray) (h : Two w0 w p1 l1 p2 l2 tr) (hl : l1.length + s.size ≤ 1099511627776) :
    Calls Try.prog 20 #[.pointer (some ⟨p1, 0, none⟩), .string s] w fun e w' => (∃ v, e = .returned v) ∧ Two w0 w' p1 (l1 ++ s.data.toList) p2 l2 tr := by
  obtain ⟨F1, F2, h1, h2, hd, b1, b2, hB, ht⟩ := h
  refine (text_any p1 l1 F1 s w h1 hl).mono ?_
  rintro e w' ⟨he, hon⟩
  exact ⟨he, Two.fst h2 hd b1 b2 hB ht hon⟩
theorem two_text2 (w0 w : World) (p1 p2 : Nat) (l1 l2 : List UInt8) (tr : Option (Nat × Array Value × TypeId)) (s : ByteArray) (h : Two w0 w p1 l1 p2 l2 tr) (hl : l2.length + s.size ≤ 1099511627776) :
    Calls Try.prog 20 #[.pointer (some ⟨p2, 0, none⟩), .string s] w fun e w' => (∃ v, e = .returned v) ∧ Two w0 w' p1 l1 p2 (l2 ++ s.data.toList) tr := by
  obtain ⟨F1, F2, h1, h2, hd, b1, b2, hB, ht⟩ := h
  refine (text_any p2 l2 F2 s w h2 hl).mono ?_
  rintro e w' ⟨he, hon⟩
  exact ⟨he, Two.snd h1 hd b1 b2 hB ht hon⟩
theorem two_str1 (w0 w : World) (p1 p2 : Nat) (l1 l2 : List UInt8) (tr : Option (Nat × Array Value × TypeId)) (h : Two w0 w p1 l1 p2 l2 tr) :
    Calls Try.prog 25 #[.pointer (some ⟨p1, 0, none⟩)] w fun e w' => e = .returned (.string ⟨l1.toArray⟩) ∧ w = w' := by
  obtain ⟨F1, F2, h1, h2, hd, b1, b2, hB, ht⟩ := h; exact str_any p1 l1 F1 w h1
theorem two_str2 (w0 w : World) (p1 p2 : Nat) (l1 l2 : List UInt8) (tr : Option (Nat × Array Value × TypeId)) (h : Two w0 w p1 l1 p2 l2 tr) :
    Calls Try.prog 25 #[.pointer (some ⟨p2, 0, none⟩)] w fun e w' => e = .returned (.string ⟨l2.toArray⟩) ∧ w = w' := by
  obtain ⟨F1, F2, h1, h2, hd, b1, b2, hB, ht⟩ := h; exact str_any p2 l2 F2 w h2
theorem two_u8 (w0 w : World) (p1 p2 : Nat) (l1 l2 : List UInt8) (tr : Option (Nat × Array Value × TypeId)) (x : Int) (t : TypeId) (g : Nat) (hg : w.heap.size = g) (h : Two w0 w p1 l1 p2 l2 tr) (hl : l1.length ≤ 1000000000) :
    Calls Try.prog 21 #[.pointer (some ⟨p1, 0, none⟩), .slice (some ⟨g, 0, none⟩) 1 1] (w.alloc (.cells #[.int .u8 x] t)) fun e w' => (∃ v, e = .returned v) ∧ Two w0 w' p1 (l1 ++ leb (n64 x) 1) p2 l2 tr := by
  subst hg
  have ha := (Below.refl w.heap.size w).alloc (Nat.le_refl _) (.cells #[.int .u8 x] t)
  obtain ⟨F1, F2, h1, h2, hd, b1, b2, hB, ht⟩ := h
  have ht' : ∀ X cs t', tr = some (X, cs, t') → Blk (w.alloc (.cells #[.int .u8 x] t)) X cs t' (0, 0) ∧ ¬ F1 X ∧ ¬ F2 X := fun X cs t' e => ⟨(ht X cs t' e).1.alloc _, (ht X cs t' e).2⟩
  refine (wU8_any p1 l1 F1 w.heap.size x t (0, 0) _ (h1.later ha) (Blk.new _ _ _ _) (fun hf => by have := h1.lt _ hf; omega) hl).mono ?_
  rintro e w' ⟨he, hon⟩
  exact ⟨he, Two.fst (h2.later ha) hd b1 b2 (hB.trans (ha.mono hB.size)) ht' hon⟩
theorem two_u32 (w0 w : World) (p1 p2 : Nat) (l1 l2 : List UInt8) (tr : Option (Nat × Array Value × TypeId)) (x : Int) (t : TypeId) (g : Nat) (hg : w.heap.size = g) (h : Two w0 w p1 l1 p2 l2 tr) (hl : l1.length ≤ 1000000000) :
    Calls Try.prog 23 #[.pointer (some ⟨p1, 0, none⟩), .slice (some ⟨g, 0, none⟩) 1 1] (w.alloc (.cells #[.int .u32 x] t)) fun e w' => (∃ v, e = .returned v) ∧ Two w0 w' p1 (l1 ++ leb (n64 x) 4) p2 l2 tr := by
  subst hg
  have ha := (Below.refl w.heap.size w).alloc (Nat.le_refl _) (.cells #[.int .u32 x] t)
  obtain ⟨F1, F2, h1, h2, hd, b1, b2, hB, ht⟩ := h
  have ht' : ∀ X cs t', tr = some (X, cs, t') → Blk (w.alloc (.cells #[.int .u32 x] t)) X cs t' (0, 0) ∧ ¬ F1 X ∧ ¬ F2 X := fun X cs t' e => ⟨(ht X cs t' e).1.alloc _, (ht X cs t' e).2⟩
  refine (wU32_any p1 l1 F1 w.heap.size x t (0, 0) _ (h1.later ha) (Blk.new _ _ _ _) (fun hf => by have := h1.lt _ hf; omega) hl).mono ?_
  rintro e w' ⟨he, hon⟩
  exact ⟨he, Two.fst (h2.later ha) hd b1 b2 (hB.trans (ha.mono hB.size)) ht' hon⟩
theorem two_u64 (w0 w : World) (p1 p2 : Nat) (l1 l2 : List UInt8) (tr : Option (Nat × Array Value × TypeId)) (x : Int) (hx : 0 ≤ x ∧ x < 18446744073709551616) (t : TypeId) (g : Nat) (hg : w.heap.size = g) (h : Two w0 w p1 l1 p2 l2 tr) (hl : l1.length ≤ 1000000000) :
    Calls Try.prog 22 #[.pointer (some ⟨p1, 0, none⟩), .slice (some ⟨g, 0, none⟩) 1 1] (w.alloc (.cells #[.int .u64 x] t)) fun e w' => (∃ v, e = .returned v) ∧ Two w0 w' p1 (l1 ++ leb (n64 x) 8) p2 l2 tr := by
  subst hg
  have ha := (Below.refl w.heap.size w).alloc (Nat.le_refl _) (.cells #[.int .u64 x] t)
  obtain ⟨F1, F2, h1, h2, hd, b1, b2, hB, ht⟩ := h
  have ht' : ∀ X cs t', tr = some (X, cs, t') → Blk (w.alloc (.cells #[.int .u64 x] t)) X cs t' (0, 0) ∧ ¬ F1 X ∧ ¬ F2 X := fun X cs t' e => ⟨(ht X cs t' e).1.alloc _, (ht X cs t' e).2⟩
  refine (wU64_any p1 l1 F1 w.heap.size x hx t (0, 0) _ (h1.later ha) (Blk.new _ _ _ _) (fun hf => by have := h1.lt _ hf; omega) hl).mono ?_
  rintro e w' ⟨he, hon⟩
  exact ⟨he, Two.fst (h2.later ha) hd b1 b2 (hB.trans (ha.mono hB.size)) ht' hon⟩
def hB (L : List (Int × ByteArray)) (k : Nat) : List UInt8 := [77, 73, 76, 69, 49, 1] ++ leb L.length 1 ++ (L.take k).flatMap entS
def bB (L : List (Int × ByteArray)) (k : Nat) : List UInt8 := (L.take k).flatMap fun x => x.2.data.toList
theorem flat_len (q : List (Int × ByteArray)) : (q.flatMap entS).length = 13 * q.length := by
  induction q with
  | nil => rfl
  | cons x q ih => rw [List.flatMap_cons, List.length_append, entS_length, ih, List.length_cons]; omega
theorem flat_body (q : List (Int × ByteArray)) (h : ∀ x ∈ q, x.2.size ≤ 1000000) : (q.flatMap fun x => x.2.data.toList).length ≤ 1000000 * q.length := by
  induction q with
  | nil => simp
  | cons x q ih =>
    have h1 := ih (fun y hy => h y (by simp [hy]))
    have h2 := h x (by simp)
    rw [List.flatMap_cons, List.length_append, List.length_cons, Array.length_toList]
    change x.2.size + _ ≤ _
    omega
theorem hB_len (L : List (Int × ByteArray)) (k : Nat) (hl : L.length ≤ 16) : (hB L k).length ≤ 300 := by
  unfold hB
  rw [List.length_append, List.length_append, leb_length, flat_len, List.length_take]
  simp; omega
theorem bB_len (L : List (Int × ByteArray)) (k : Nat) (hl : L.length ≤ 16) (hz : ∀ x ∈ L, x.2.size ≤ 1000000) : (bB L k).length ≤ 16000000 := by
  have := flat_body (L.take k) (fun x hx => hz x (List.mem_of_mem_take hx))
  rw [List.length_take] at this
  unfold bB; omega
theorem hB_succ (L : List (Int × ByteArray)) (k : Nat) (hk : k < L.length) : hB L (k + 1) = hB L k ++ leb (n64 L[k].1) 1 ++ leb L[k].2.size 8 ++ leb (Crc.sum L[k].2.data.toList) 4 := by
  unfold hB
  rw [List.take_succ_eq_append_getElem hk, List.flatMap_append]
  simp [entS]
theorem bB_succ (L : List (Int × ByteArray)) (k : Nat) (hk : k < L.length) : bB L (k + 1) = bB L k ++ L[k].2.data.toList := by
  unfold bB
  rw [List.take_succ_eq_append_getElem hk, List.flatMap_append]
  simp
theorem str_app (a b : List UInt8) : ((⟨a.toArray⟩ : ByteArray) ++ ⟨b.toArray⟩) = ⟨(a ++ b).toArray⟩ := by
  apply ByteArray.ext
  simp
set_option maxHeartbeats 4000000 in
set_option maxRecDepth 100000 in
theorem enc_any (v : Value) (L : List (Int × ByteArray)) (w : World) (hs : SlS w v L) (hsz : ∀ x ∈ L, x.2.size ≤ 1000000) (hL : L.length ≤ 1000) :
    Calls Try.prog 9 #[v] w fun e w' => e = .returned (encV L) ∧ Below w.heap.size w w' := by
  obtain ⟨a, cap, rfl, h1, h2, h3⟩ := id hs
  unfold maxLen at h2
  have HS := Lib.hid hs; have HZ := Lib.hid hsz
  clear hs hsz h3
  by_cases hl : L.length ≤ 16
  · go_enter Try.func9, Try.ntmps9
    go_wp2_with fail
    refine (octNew_any w).mono ?_
    rintro e w1 ⟨p1, rfl, hw1, hp1, hb1⟩
    have Hw1 := Lib.hid hw1; have Hb1 := Lib.hid hb1
    clear hw1 hb1
    go_wp2_with fail
    refine (octNew_any w1).mono ?_
    rintro e w2 ⟨p2, rfl, hw2, hp2, hb2⟩
    have HT0 : Two w w2 p1 [] p2 [] none := by
      have hs1 := Hb1.out.size
      refine ⟨_, _, Hw1.out.later hb2, hw2, fun b hb hb' => ?_, fun b hb => by omega, fun b hb => by omega, Hb1.out.next' hb2, fun X cs t e => by cases e⟩
      have := Hw1.out.lt b hb; omega
    have HT := Lib.hid HT0
    clear hw2 hb2 Hw1 Hb1 HT0
    go_wp2_with fail
    refine (two_text1 _ _ p1 p2 [] [] _ _ HT.out (by decide)).mono ?_
    rintro e w3 ⟨⟨v, rfl⟩, ht⟩
    clear HT
    have HT := Lib.hid ht
    clear ht
    have hn0 := n64_nat L.length (by omega)
    go_wp2_with fail
    refine (two_u8 _ _ p1 p2 _ _ _ _ _ _ rfl HT.out (by decide)).mono ?_
    rintro e w4 ⟨⟨v4, rfl⟩, ht⟩
    rw [hn0] at ht
    have ht0 : Two w w4 p1 (hB L 0) p2 (bB L 0) none := by unfold hB bB; simpa using ht
    clear HT hn0 ht
    have HT := Lib.hid ht0
    have hlen := fun k => hB_len L k hl
    have HLen := Lib.hid hlen
    have HBl := Lib.hid (fun k => bB_len L k hl HZ.out)
    clear ht0 hlen
    go_wp2_with fail
    go_loopw [7, 23] (fun _ i wr => ∃ k : Nat, k ≤ L.length ∧ i = .int .i64 k ∧ Hid (Two w wr p1 (hB L k) p2 (bB L k) none ∧ (L.take k).all goodK = true)) (fun _ i _ => L.length - (intOf i).toNat)
    case atStart => exact ⟨0, Nat.zero_le _, rfl, Lib.hid ⟨HT.out, rfl⟩⟩
    case round =>
      clear HT
      obtain ⟨k, hk, rfl, hrel⟩ := hrel
      by_cases hlt : k < L.length
      · obtain ⟨ba, oa, ha0, hc1, hc2⟩ : ∃ ba oa, a = some ⟨ba, oa, none⟩ ∧ wr.cell? ⟨ba, oa + k * 2, none⟩ = some (.int .i64 L[k].1) ∧ wr.cell? ⟨ba, oa + k * 2 + 1, none⟩ = some (.string L[k].2) := by
          have hB := hrel.out.1.below
          obtain ⟨a', c', e, _, _, hh⟩ := HS.out.later hB
          obtain ⟨bl, ol, e2, q1, q2⟩ := hh k hlt
          have e3 : a = a' := (Value.slice.inj e).1
          exact ⟨bl, ol, by rw [e3, e2], q1, q2⟩
        subst ha0
        have hz := HZ.out _ (List.getElem_mem hlt)
        have hsH := hB_succ L k hlt
        have hsB := bB_succ L k hlt
        have htk : (L.take (k + 1)).all goodK = ((L.take k).all goodK && goodK L[k]) := by rw [List.take_succ_eq_append_getElem hlt, List.all_append]; simp
        have hLm := List.getElem_mem hlt
        have hgl : okL L = true → goodK L[k] = true := fun h => by
          unfold okL at h
          rw [Bool.and_eq_true, List.all_eq_true] at h
          exact h.2 _ hLm
        clear hLm
        generalize L[k] = x at *
        obtain ⟨kd, s⟩ := x
        simp only at hc1 hc2 hz hsH hsB
        have hn1 := n64_nat s.size (by omega)
        have hn2 := n64_nat (Crc.sum s.data.toList) (by have := Crc.sum_lt s.data.toList; omega)
        have hcs := Crc.sum_lt s.data.toList
        by_cases hg : 0 ≤ kd ∧ kd ≤ 255
        · obtain ⟨hg1, hg2⟩ := hg
          have hgk : goodK (kd, s) = true := by unfold goodK; rw [decide_eq_true hg1, decide_eq_true hg2]; rfl
          have HsH := Lib.hid hsH; have HsB := Lib.hid hsB; have Htk := Lib.hid htk; have Hn1 := Lib.hid hn1; have Hn2 := Lib.hid hn2; have Hgk := Lib.hid hgk
          clear hsH hsB htk hn1 hn2 hgk hgl
          generalize hcr : Crc.sum s.data.toList = cr at *
          have Hcr := Lib.hid hcr
          clear hcr
          have HT := Lib.hid (hrel.out.1.track #[.int .i64 kd, .string s] 44)
          have hl0 := HLen.out k
          have hb0 := HBl.out k
          go_wp2_with fail
          refine (two_u8 _ _ p1 p2 _ _ _ _ _ _ (by simp) HT.out (by omega)).mono ?_
          rintro e w5 ⟨⟨v5, rfl⟩, ht⟩
          have q0 := ht.blk.cell 0
          have q1 := ht.blk.cell 1
          change w5.cell? ⟨wr.heap.size, 0, none⟩ = some (.int .i64 kd) at q0
          change w5.cell? ⟨wr.heap.size, 1, none⟩ = some (.string s) at q1
          have HT5 := Lib.hid ht
          clear HT ht
          go_wp2_with fail
          refine (two_u64 _ _ p1 p2 _ _ _ _ (by omega) _ _ rfl HT5.out (by rw [List.length_append, leb_length]; omega)).mono ?_
          rintro e w6 ⟨⟨v6, rfl⟩, ht⟩
          rw [Hn1.out] at ht
          clear q0 q1
          have q1 := ht.blk.cell 1
          change w6.cell? ⟨wr.heap.size, 1, none⟩ = some (.string s) at q1
          have HT6 := Lib.hid ht
          clear HT5 ht
          go_wp2_with fail
          refine (sum_is cr s (by omega) _ Hcr.out).mono ?_
          rintro e w7 ⟨rfl, hb7⟩
          have ht := HT6.out.later hb7
          clear q1
          have q1 := ht.blk.cell 1
          change w7.cell? ⟨wr.heap.size, 1, none⟩ = some (.string s) at q1
          have HT7 := Lib.hid ht
          clear HT6 ht hb7
          go_wp2_with fail
          refine (two_u32 _ _ p1 p2 _ _ _ _ _ _ rfl HT7.out (by rw [List.length_append, List.length_append, leb_length, leb_length]; omega)).mono ?_
          rintro e w8 ⟨⟨v8, rfl⟩, ht⟩
          rw [Hn2.out, ← HsH.out] at ht
          clear q1
          have q1 := ht.blk.cell 1
          change w8.cell? ⟨wr.heap.size, 1, none⟩ = some (.string s) at q1
          have HT8 := Lib.hid ht
          clear HT7 ht
          go_wp2_with fail
          refine (two_text2 _ _ p1 p2 _ _ _ _ HT8.out (by omega)).mono ?_
          rintro e w9 ⟨⟨v9, rfl⟩, ht⟩
          rw [← HsB.out] at ht
          have HT9 := Lib.hid ht.forget
          clear HT8 ht q1
          go_wp2_with fail
          go_roundw
          case rel => exact ⟨k + 1, by omega, by go_num, Lib.hid ⟨HT9.out, by rw [Htk.out, hrel.out.2, Hgk.out]; rfl⟩⟩
          case measure => simp [intOf]; omega
        · have hng : goodK (kd, s) = false := by
            unfold goodK
            by_cases h0 : 0 ≤ kd
            · rw [decide_eq_false (show ¬ kd ≤ 255 by omega), Bool.and_false]
            · rw [decide_eq_false h0, Bool.false_and]
          have hv : encV L = .tuple #[.string ⟨#[]⟩, .int .i64 2] := by
            unfold encV
            rw [if_neg (fun h => by have := hgl h; rw [hng] at this; cases this)]
          have HV := Lib.hid hv
          have HBB := Lib.hid hrel.out.1.below
          clear hv hng hgl hsH hsB htk hn1 hn2 hcs
          by_cases h0 : kd < 0
          · clear hg
            go_wp2_with fail
            go_ret2
            rw [HV.out]
            exact ⟨rfl, HBB.out.alloc (by exact HBB.out.size) _⟩
          · have h5 : 255 < kd := by omega
            clear hg
            go_wp2_with fail
            go_ret2
            rw [HV.out]
            exact ⟨rfl, HBB.out.alloc (by exact HBB.out.size) _⟩
      · obtain rfl : k = L.length := by omega
        have hok : okL L = true := by
          have := hrel.out.2
          rw [List.take_length] at this
          unfold okL; rw [decide_eq_true hl, this]; rfl
        have hv : encV L = .tuple #[.string ⟨(encB L).toArray⟩, .int .i64 0] := by unfold encV; rw [if_pos hok]
        have hh : hB L L.length = headB L := by unfold hB headB; rw [List.take_length]
        have hbb : bB L L.length = bodyB L := by unfold bB bodyB; rw [List.take_length]
        have hl0 := HLen.out L.length
        have hlb := HBl.out L.length
        rw [hbb] at hlb
        have HT0 := hrel.out.1
        rw [hh, hbb] at HT0
        rw [hh] at hl0
        have HT := Lib.hid HT0
        have hn2 := n64_nat (Crc.sum (headB L)) (by have := Crc.sum_lt (headB L); omega)
        have hcs := Crc.sum_lt (headB L)
        have he : encB L = headB L ++ leb (Crc.sum (headB L)) 4 ++ bodyB L := rfl
        rw [he] at hv
        generalize hcr : Crc.sum (headB L) = cr at *
        generalize headB L = H at *
        generalize bodyB L = B at *
        have Hcr := Lib.hid hcr; have Hn2 := Lib.hid hn2; have HV := Lib.hid hv
        clear HT0 hv he hh hbb hok hrel hcr hn2
        go_wp2_with fail
        refine (two_str1 _ _ p1 p2 _ _ _ HT.out).mono ?_
        rintro e w' ⟨rfl, rfl⟩
        go_wp2_with fail
        refine (sum_is cr ⟨H.toArray⟩ (by change H.length ≤ _; omega) _ Hcr.out).mono ?_
        rintro e w7 ⟨rfl, hb7⟩
        have HT7 := Lib.hid (HT.out.later hb7)
        clear HT hb7
        go_wp2_with fail
        refine (two_u32 _ _ p1 p2 _ _ _ _ _ _ rfl HT7.out (by omega)).mono ?_
        rintro e w8 ⟨⟨v8, rfl⟩, ht⟩
        rw [Hn2.out] at ht
        have HT8 := Lib.hid ht
        clear HT7 ht
        go_wp2_with fail
        refine (two_str1 _ _ p1 p2 _ _ _ HT8.out).mono ?_
        rintro e w' ⟨rfl, rfl⟩
        go_wp2_with fail
        refine (two_str2 _ _ p1 p2 _ _ _ HT8.out).mono ?_
        rintro e w' ⟨rfl, rfl⟩
        have hcc : ¬ 9223372036854775807 < H.length + (leb cr 4).length + B.length := by rw [leb_length]; omega
        go_wp2_with fail
        go_ret2
        rw [HV.out]
        exact ⟨by rw [← str_app]; rfl, HT8.out.below⟩
  · have h10 : ¬ L.length ≤ 16 := hl
    have hv : encV L = .tuple #[.string ⟨#[]⟩, .int .i64 2] := by
      unfold encV okL; rw [decide_eq_false hl]; rfl
    rw [hv]
    clear hv hl
    go_enter Try.func9, Try.ntmps9
    go_wp2_with fail
    go_ret2
    exact ⟨rfl, Below.refl _ _⟩
end Go.Proofs.Ytaikcehdomaebaa
