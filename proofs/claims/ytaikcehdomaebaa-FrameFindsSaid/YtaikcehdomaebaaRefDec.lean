/- THE WALKS over the reference of chapter 27: Decode. -/
import Derived.Test.YtaikcehdomaebaaRefRd
import Derived.Test.YtaikcehdomaebaaFrBurst
namespace Go.Proofs.Ytaikcehdomaebaa
open Go.RowKit
theorem blk_type {w : World} {g : Nat} {c c' : Array Value} {t t' : TypeId} {f f' : Nat × Nat} (h : Blk w g c t f) (h' : Blk w g c' t' f') : t = t' := by
  have e := Option.some.inj (Eq.trans (Eq.symm h) h')
  cases e
  rfl
theorem ownsRow_grown {w w' : World} {B B2 : Nat} {e e2 : TypeId} {s s2 : Nat} {v v2 : Value} {n n2 : Nat} {xs xs2 : List Value} (h : w.ownsRow B e s v n xs) (h2 : w.ownsRow B2 e2 s2 v2 n2 xs2) (hne : e ≠ e2) (hg : w.grownBy w' v2.ownBlock) : w'.ownsRow B e s v n xs := by
  refine ownsRow_agree h fun k hk => ?_
  obtain ⟨_, cur, hb⟩ := ownsRow_blk h hk
  refine hg.block k hb.lt (fun ek => ?_)
  obtain ⟨_, cur2, hb2⟩ := ownsRow_blk h2 ek.symm
  exact hne (blk_type hb hb2)
theorem ownsRow_kept {w w' : World} {B : Nat} {e : TypeId} {s : Nat} {v : Value} {n q : Nat} {xs : List Value} {cs : Array Value} {t : TypeId} {fr : Nat × Nat} (h : w.ownsRow B e s v n xs) (hq : Blk w q cs t fr) (hne : e ≠ t) (hk : Kept (· = q) w w') : w'.ownsRow B e s v n xs := by
  refine ownsRow_agree h fun k hk' => ?_
  obtain ⟨_, cur, hb⟩ := ownsRow_blk h hk'
  refine hk.block k hb.lt (fun ek => ?_)
  subst ek
  exact hne (blk_type hb hq)
theorem ownsRow_later {w w' : World} {B : Nat} {e : TypeId} {s : Nat} {v : Value} {n : Nat} {xs : List Value} (h : w.ownsRow B e s v n xs) (hb : Below w.heap.size w w') : w'.ownsRow B e s v n xs :=
  ownsRow_agree h fun _ hk => by obtain ⟨_, cur, hbl⟩ := ownsRow_blk h hk; exact hb.block _ hbl.lt
theorem Rf.blk {w : World} {q : Nat} {R : RS} (h : Rf w q R) : ∃ cs, Blk w q cs 69 (0, 0) := by obtain ⟨⟨c, i, hb, _⟩, _, _⟩ := h; exact ⟨_, hb⟩
theorem Rf.grown {w w' : World} {q : Nat} {R : RS} {B2 : Nat} {e2 : TypeId} {s2 : Nat} {v2 : Value} {n2 : Nat} {xs2 : List Value} (h : Rf w q R) (h2 : w.ownsRow B2 e2 s2 v2 n2 xs2) (hne : 69 ≠ e2) (hg : w.grownBy w' v2.ownBlock) : Rf w' q R := by
  refine h.agree ?_
  obtain ⟨cs, hb⟩ := h.blk
  refine hg.block q hb.lt (fun ek => ?_)
  obtain ⟨_, cur2, hb2⟩ := ownsRow_blk h2 ek.symm
  exact hne (blk_type hb hb2)
def secE (x : En) : Int × ByteArray := ((x.1 : Int), ⟨#[]⟩)
/-- what Decode has in hand: its reader, and three rows -/
structure D3 (w W : World) (q : Nat) (R : RS) (v1 : Value) (n1 : Nat) (x1 : List Value) (v2 : Value) (n2 : Nat) (x2 : List Value) (v3 : Value) (n3 : Nat) (x3 : List Value) : Prop where
  rd : Rf W q R
  l : W.ownsRow w.heap.size 44 2 v1 n1 x1
  lo : W.ownsRow w.heap.size 53 1 v2 n2 x2
  su : W.ownsRow w.heap.size 42 1 v3 n3 x3
  bel : Below w.heap.size w W
  hq : w.heap.size ≤ q
section
variable {w W W1 : World} {q : Nat} {R R' : RS} {v1 v2 v3 v' : Value} {n1 n2 n3 n' : Nat} {x1 x2 x3 x' : List Value}
theorem D3.call (h : D3 w W q R v1 n1 x1 v2 n2 x2 v3 n3 x3) (hr : RfOn W q R' W1) : D3 w W1 q R' v1 n1 x1 v2 n2 x2 v3 n3 x3 := by
  obtain ⟨cs, hb⟩ := h.rd.blk
  exact ⟨hr.1, ownsRow_kept h.l hb (by decide) hr.2, ownsRow_kept h.lo hb (by decide) hr.2, ownsRow_kept h.su hb (by decide) hr.2, h.bel.trans (hr.2.below h.bel.size (fun k hk => by rw [hk]; exact h.hq)), h.hq⟩
theorem D3.later (h : D3 w W q R v1 n1 x1 v2 n2 x2 v3 n3 x3) (hb : Below W.heap.size W W1) : D3 w W1 q R v1 n1 x1 v2 n2 x2 v3 n3 x3 :=
  ⟨h.rd.later hb, ownsRow_later h.l hb, ownsRow_later h.lo hb, ownsRow_later h.su hb, h.bel.next' hb, h.hq⟩
theorem D3.alloc (h : D3 w W q R v1 n1 x1 v2 n2 x2 v3 n3 x3) (o : Obj) : D3 w (W.alloc o) q R v1 n1 x1 v2 n2 x2 v3 n3 x3 := h.later ((Below.refl _ _).alloc (Nat.le_refl _) o)
theorem D3.app1 (h : D3 w W q R v1 n1 x1 v2 n2 x2 v3 n3 x3) (ho : W1.ownsRow w.heap.size 44 2 v' n' x') (hg : W.grownBy W1 v1.ownBlock) : D3 w W1 q R v' n' x' v2 n2 x2 v3 n3 x3 :=
  ⟨h.rd.grown h.l (by decide) hg, ho, ownsRow_grown h.lo h.l (by decide) hg, ownsRow_grown h.su h.l (by decide) hg, below_grown h.bel hg (fun _ hj => (ownsRow_blk h.l hj).1) h.bel.size, h.hq⟩
theorem D3.app2 (h : D3 w W q R v1 n1 x1 v2 n2 x2 v3 n3 x3) (ho : W1.ownsRow w.heap.size 53 1 v' n' x') (hg : W.grownBy W1 v2.ownBlock) : D3 w W1 q R v1 n1 x1 v' n' x' v3 n3 x3 :=
  ⟨h.rd.grown h.lo (by decide) hg, ownsRow_grown h.l h.lo (by decide) hg, ho, ownsRow_grown h.su h.lo (by decide) hg, below_grown h.bel hg (fun _ hj => (ownsRow_blk h.lo hj).1) h.bel.size, h.hq⟩
theorem D3.app3 (h : D3 w W q R v1 n1 x1 v2 n2 x2 v3 n3 x3) (ho : W1.ownsRow w.heap.size 42 1 v' n' x') (hg : W.grownBy W1 v3.ownBlock) : D3 w W1 q R v1 n1 x1 v2 n2 x2 v' n' x' :=
  ⟨h.rd.grown h.su (by decide) hg, ownsRow_grown h.l h.su (by decide) hg, ownsRow_grown h.lo h.su (by decide) hg, ho, below_grown h.bel hg (fun _ hj => (ownsRow_blk h.su hj).1) h.bel.size, h.hq⟩
end
theorem infoU64 : (Try.prog.info? 53).map (fun i => (i.zero, i.size, i.bytes)) = some (some (.int .u64 0), 1, 8) := by kernel_rfl
theorem infoU32 : (Try.prog.info? 42).map (fun i => (i.zero, i.size, i.bytes)) = some (some (.int .u32 0), 1, 4) := by kernel_rfl
theorem row_form {w : World} {B : Nat} {e : TypeId} {s : Nat} {v : Value} {n : Nat} {xs : List Value} (h : w.ownsRow B e s v n xs) : ∃ a cap, v = .slice a n cap ∧ n ≤ cap ∧ cap ≤ maxLen ∧ ∀ j u, xs[j]? = some u → ∃ g, a = some ⟨g, 0, none⟩ ∧ B ≤ g ∧ w.cell? ⟨g, j, none⟩ = some u ∧ w.frozen? ⟨g, j, none⟩ = false := by
  rcases id h.2 with ⟨rfl, rfl⟩ | ⟨g, cap, cur, rfl, h1, h2, h3, h4, h5, h6⟩
  · refine ⟨none, 0, rfl, Nat.le_refl _, Nat.zero_le _, fun j u hj => ?_⟩
    have := h.1
    rw [Nat.zero_mul] at this
    rw [List.eq_nil_of_length_eq_zero this] at hj
    cases hj
  · refine ⟨_, cap, rfl, h3, h4, fun j u hj => ⟨g, rfl, h1, ?_, ?_⟩⟩
    · have hb : Blk w g cur e (0, 0) := h2
      rw [hb.cell]
      rw [← h6, List.getElem?_take] at hj
      split at hj
      · simpa using hj
      · cases hj
    · have hb : Blk w g cur e (0, 0) := h2
      exact hb.free _ (Or.inr (Nat.zero_le _))
def kSec (es : List En) : List Value := (es.map secE).flatMap secC
def kLong (es : List En) : List Value := es.map fun x => Value.int .u64 (x.2.1 : Nat)
def kSum (es : List En) : List Value := es.map fun x => Value.int .u32 (x.2.2 : Nat)
section
variable {s : ByteArray} {R6 R7 R : RS} {many : Nat} {es : List En}
theorem decV_many (h1 : (RS.take ⟨s, 0, none⟩ 6).1 = firstB) (h2 : ¬ ((RS.take ⟨s, 0, none⟩ 6).2.num 1).1 ≤ 16) : decV s = (23, []) := by
  have hh : RS.head ⟨s, 0, none⟩ = none := by
    unfold RS.head
    rw [if_pos h1, if_neg h2]
  unfold decV
  rw [hh]
theorem head_some (h1 : (RS.take ⟨s, 0, none⟩ 6).1 = firstB) (h2 : ((RS.take ⟨s, 0, none⟩ 6).2.num 1).1 ≤ 16) : RS.head ⟨s, 0, none⟩ = some (((RS.take ⟨s, 0, none⟩ 6).2.num 1).2.ents ((RS.take ⟨s, 0, none⟩ 6).2.num 1).1) := by
  unfold RS.head
  rw [if_pos h1, if_pos h2]
theorem decV_f (h : RS.head ⟨s, 0, none⟩ = some (es, R)) (hf : (R.num 4).2.f.isSome = true) : decV s = (23, []) := by
  unfold decV
  rw [h]; simp only
  rw [if_pos hf]
theorem decV_sum (h : RS.head ⟨s, 0, none⟩ = some (es, R)) (hf : (R.num 4).2.f = none) (hn : (R.num 4).1 ≠ Crc.sum (s.extract 0 R.at_).data.toList) : decV s = (23, []) := by
  unfold decV
  rw [h]; simp only
  rw [if_neg (by simp [hf]), if_pos hn]
theorem decV_left (h : RS.head ⟨s, 0, none⟩ = some (es, R)) (hf : (R.num 4).2.f = none) (hn : (R.num 4).1 = Crc.sum (s.extract 0 R.at_).data.toList) (hd : dsum es (s.size - (R.num 4).2.at_) ≠ some 0) : decV s = (23, []) := by
  unfold decV
  rw [h]; simp only
  rw [if_neg (by simp [hf]), if_neg (by simp [hn]), if_pos hd]
theorem decV_bods (h : RS.head ⟨s, 0, none⟩ = some (es, R)) (hf : (R.num 4).2.f = none) (hn : (R.num 4).1 = Crc.sum (s.extract 0 R.at_).data.toList) (hd : dsum es (s.size - (R.num 4).2.at_) = some 0) : decV s = (match (R.num 4).2.bods es with | none => (24, []) | some L => (0, L)) := by
  unfold decV
  rw [h]; simp only
  rw [if_neg (by simp [hf]), if_neg (by simp [hn]), if_neg (by simp [hd])]
  cases (R.num 4).2.bods es <;> rfl
end
theorem flat_sec_setB : ∀ (l : List (Int × ByteArray)) (i : Nat) (hi : i < l.length) (y : ByteArray), (l.flatMap secC).set (i * 2 + 1) (.string y) = (l.set i (l[i].1, y)).flatMap secC
  | x :: l, 0, _, y => rfl
  | x :: l, i + 1, hi, y => by
    rw [List.flatMap_cons, List.set_append_right _ _ (by show 2 ≤ (i + 1) * 2 + 1; omega), List.set_cons_succ, List.flatMap_cons]
    rw [show (i + 1) * 2 + 1 - (secC x).length = i * 2 + 1 by show (i + 1) * 2 + 1 - 2 = i * 2 + 1; omega, flat_sec_setB l i (by simpa using hi) y]
    rfl
theorem set_body (pre : List (Int × ByteArray)) (x : En) (rest : List En) (b : ByteArray) : ∀ k, pre.length = k → ((pre ++ (x :: rest).map secE).flatMap secC).set (k * 2 + 1) (.string b) = ((pre ++ [((x.1 : Int), b)]) ++ rest.map secE).flatMap secC := by
  induction pre with
  | nil => intro k hk; subst hk; rfl
  | cons y pre ih =>
    intro k hk
    subst hk
    rw [List.cons_append, List.flatMap_cons, List.length_cons, List.set_append_right _ _ (by show 2 ≤ (pre.length + 1) * 2 + 1; omega), show (pre.length + 1) * 2 + 1 - (secC y).length = pre.length * 2 + 1 by show (pre.length + 1) * 2 + 1 - 2 = _; omega, ih _ rfl]
    simp
theorem row_set {w : World} {B : Nat} {e : TypeId} {sz : Nat} {g n cap : Nat} {xs : List Value} (h : w.ownsRow B e sz (.slice (some ⟨g, 0, none⟩) n cap) n xs) (i : Nat) (v : Value) : (w.setCell ⟨g, i, none⟩ v).ownsRow B e sz (.slice (some ⟨g, 0, none⟩) n cap) n (xs.set i v) := by
  refine ⟨by rw [List.length_set]; exact h.1, ?_⟩
  rcases h.2 with ⟨e0, _⟩ | ⟨g', c, cur, e0, h1, h2, h3, h4, h5, h6⟩
  · cases e0
  · have e1 : g = g' := by simpa using (Value.slice.inj e0).1
    subst e1
    have hb : Blk w g cur e (0, 0) := h2
    refine .inr ⟨g, c, _, e0, h1, hb.set i v, h3, h4, by rw [Array.size_setIfInBounds]; exact h5, ?_⟩
    rw [Array.toList_setIfInBounds, List.take_set, h6]
theorem row_cell {w : World} {B : Nat} {e : TypeId} {sz : Nat} {a : Option Addr} {n cap : Nat} {xs : List Value} (h : w.ownsRow B e sz (.slice a n cap) n xs) (j : Nat) (u : Value) (hj : xs[j]? = some u) : ∃ g, a = some ⟨g, 0, none⟩ ∧ B ≤ g ∧ w.cell? ⟨g, j, none⟩ = some u ∧ w.frozen? ⟨g, j, none⟩ = false := by
  obtain ⟨a', cap', e, _, _, h2⟩ := row_form h
  have e1 := (Value.slice.inj e).1
  rw [e1]
  exact h2 j u hj
theorem grown_set {w : World} {g o : Nat} {n cap : Nat} {v : Value} : w.grownBy (w.setCell ⟨g, o, none⟩ v) (Value.slice (some ⟨g, 0, none⟩) n cap).ownBlock :=
  ⟨rfl, rfl, rfl, by simp [World.setCell], fun k _ hk => heap_setCell_other _ _ _ _ (fun e => hk (by rw [e]; rfl))⟩
set_option maxHeartbeats 4000000 in
set_option maxRecDepth 100000 in
theorem refDec_any (s : ByteArray) (w : World) (hs : s.size ≤ 1000000) (c : Int) (N : List (Int × ByteArray)) (hd : decV s = (c, N)) :
    Calls Try.prog 16 #[.string s] w fun e w' => ∃ a cap, e = .returned (.tuple #[.slice a N.length cap, .int .i64 c]) ∧ SlS w' (.slice a N.length cap) N ∧ Below w.heap.size w w' := by
  have HD := Lib.hid hd
  clear hd
  have hrf : Rf (w.alloc (.cells #[.string s, .int .i64 0, .int .i64 0, .int .i64 0, .int .i64 0, .int .i64 0] 69)) w.heap.size ⟨s, 0, none⟩ := ⟨⟨0, 0, Blk.new _ _ _ _, .inl ⟨rfl, rfl, rfl⟩⟩, Nat.zero_le _, by show s.size ≤ _; omega⟩
  have hb0 : Below w.heap.size w (w.alloc (.cells #[.string s, .int .i64 0, .int .i64 0, .int .i64 0, .int .i64 0, .int .i64 0] 69)) := (Below.refl _ _).alloc (Nat.le_refl _) _
  have hD0 : D3 w (w.alloc (.cells #[.string s, .int .i64 0, .int .i64 0, .int .i64 0, .int .i64 0, .int .i64 0] 69)) w.heap.size ⟨s, 0, none⟩ (.slice none 0 0) 0 [] (.slice none 0 0) 0 [] (.slice none 0 0) 0 [] :=
    ⟨hrf, World.ownsRow_nil _ _ _ _, World.ownsRow_nil _ _ _ _, World.ownsRow_nil _ _ _ _, hb0, Nat.le_refl _⟩
  have C6 := Lib.hid (refTake_any w.heap.size ⟨s, 0, none⟩ 6 _ hrf (by decide))
  have HD0 := Lib.hid hD0
  clear hrf hb0 hD0
  obtain ⟨l6, hl6⟩ : ∃ l : List UInt8, (RS.take ⟨s, 0, none⟩ 6).1 = ⟨l.toArray⟩ := ⟨(RS.take ⟨s, 0, none⟩ 6).1.data.toList, by cases (RS.take ⟨s, 0, none⟩ 6).1; simp⟩
  obtain ⟨R6, hR6⟩ : ∃ R : RS, (RS.take ⟨s, 0, none⟩ 6).2 = R := ⟨_, rfl⟩
  have hs6 : R6.s = s := by rw [← hR6, RS.take_s]
  rw [hl6, hR6] at C6
  have Hl6 := Lib.hid hl6; have HR6 := Lib.hid hR6; have Hs6 := Lib.hid hs6
  clear hl6 hR6 hs6
  by_cases h6 : l6 = [77, 73, 76, 69, 49, 1]
  · subst h6
    go_enter Try.func16, Try.ntmps16
    go_wp2_with fail
    refine C6.out.mono ?_
    rintro e w1 ⟨rfl, hon⟩
    have HD1 := Lib.hid (HD0.out.call hon)
    clear hon C6 HD0
    go_wp2_with fail
    have CN := Lib.hid (refNum_any w.heap.size R6 1 (by decide) w1 HD1.out.rd)
    obtain ⟨many, hmany⟩ : ∃ n, n = (R6.num 1).1 := ⟨_, rfl⟩
    obtain ⟨R7, hR7⟩ : ∃ R, R = (R6.num 1).2 := ⟨_, rfl⟩
    have hm256 : many < 256 := by rw [hmany]; exact RS.num_lt R6 1
    have hs7 : R7.s = s := by rw [hR7, RS.num_s]; exact Hs6.out
    rw [← hmany, ← hR7] at CN
    have Hmany := Lib.hid hmany; have HR7 := Lib.hid hR7; have Hs7 := Lib.hid hs7
    clear hmany hR7 hs7
    refine CN.out.mono ?_
    rintro e w2 ⟨rfl, hon⟩
    have HD2 := Lib.hid (HD1.out.call hon)
    clear hon CN HD1
    have q0 : IntKind.i64.wrap (many : Int) = many := wrap_small _ (by omega) (by omega)
    go_wp2_with fail
    clear q0
    go_loopw [6, 7, 8, 9] (fun s6 s7 s8 i wr => ∃ (k : Nat) (v1 v2 v3 : Value), k ≤ many ∧ k ≤ 17 ∧ i = .int .i64 k ∧ v1 = s6 ∧ v3 = s7 ∧ v2 = s8 ∧ Hid (D3 w wr w.heap.size (R7.ents k).2 v1 k (kSec (R7.ents k).1) v2 k (kLong (R7.ents k).1) v3 k (kSum (R7.ents k).1))) (fun _ _ _ i _ => 300 - (intOf i).toNat)
    case atStart => exact ⟨0, _, _, _, Nat.zero_le _, Nat.zero_le _, rfl, rfl, rfl, rfl, HD2⟩
    case round =>
      clear HD2
      obtain ⟨k, v1, v2, v3, hk, hk17, rfl, rfl, rfl, rfl, hrel⟩ := hrel
      by_cases hlt : k < many
      · by_cases h17 : k ≤ 16
        · obtain ⟨Rk, hRk⟩ : ∃ R, R = (R7.ents k).2 := ⟨_, rfl⟩
          obtain ⟨es, hes⟩ : ∃ es, es = (R7.ents k).1 := ⟨_, rfl⟩
          obtain ⟨n1, hn1⟩ : ∃ n, n = (Rk.num 1).1 := ⟨_, rfl⟩
          obtain ⟨Ra, hRa⟩ : ∃ R, R = (Rk.num 1).2 := ⟨_, rfl⟩
          obtain ⟨n2, hn2⟩ : ∃ n, n = (Ra.num 8).1 := ⟨_, rfl⟩
          obtain ⟨Rb, hRb⟩ : ∃ R, R = (Ra.num 8).2 := ⟨_, rfl⟩
          obtain ⟨n3, hn3⟩ : ∃ n, n = (Rb.num 4).1 := ⟨_, rfl⟩
          obtain ⟨Rc, hRc⟩ : ∃ R, R = (Rb.num 4).2 := ⟨_, rfl⟩
          have b1 : n1 < 256 := by rw [hn1]; exact RS.num_lt Rk 1
          have b2 : n2 < 18446744073709551616 := by rw [hn2]; exact RS.num_lt Ra 8
          have b3 : n3 < 4294967296 := by rw [hn3]; exact RS.num_lt Rb 4
          have hnx : R7.ents (k + 1) = (es ++ [(n1, n2, n3)], Rc) := by
            show ((R7.ents k).1 ++ [(R7.ents k).2.ent.1], (R7.ents k).2.ent.2) = _
            rw [hes, hn1, hn2, hn3, hRc, hRb, hRa, hRk]
            rfl
          have hd0 := hrel.out
          rw [← hRk, ← hes] at hd0
          have HDk := Lib.hid hd0
          have hsl : es.length = k := by rw [hes, RS.ents_length]
          have Hnx := Lib.hid hnx; have Hsl := Lib.hid hsl
          have C1 : ∀ u, Rf u w.heap.size Rk → _ := fun u hu => refNum_any w.heap.size Rk 1 (by decide) u hu
          have C2 : ∀ u, Rf u w.heap.size Ra → _ := fun u hu => refNum_any w.heap.size Ra 8 (by decide) u hu
          have C3 : ∀ u, Rf u w.heap.size Rb → _ := fun u hu => refNum_any w.heap.size Rb 4 (by decide) u hu
          rw [← hn1, ← hRa] at C1
          rw [← hn2, ← hRb] at C2
          rw [← hn3, ← hRc] at C3
          have H1 := Lib.hid C1; have H2 := Lib.hid C2; have H3 := Lib.hid C3
          clear C1 C2 C3 hd0 hnx hsl hn1 hn2 hn3 hRa hRb hRc hRk hes hrel
          have w1' : IntKind.i64.wrap (n1 : Int) = n1 := wrap_small _ (by omega) (by omega)
          have w3' : IntKind.u32.wrap (n3 : Int) = n3 := by simp [IntKind.wrap, IntKind.signed, IntKind.bits]; omega
          go_wp2_with fail
          refine (H1.out _ HDk.out.rd).mono ?_
          rintro e wa ⟨rfl, hon⟩
          have HDa := Lib.hid (HDk.out.call hon)
          clear hon HDk H1
          obtain ⟨i0, hi, hz0, hz1, hz2⟩ := info_parts infoSe
          have HI := Lib.hid hi; have HZ0 := Lib.hid hz0; have HZ1 := Lib.hid hz1; have HZ2 := Lib.hid hz2
          clear hi hz0 hz1 hz2
          have HA1 := Lib.hid (HDa.out.alloc (.cells #[.int .i64 n1, .string ⟨#[]⟩] 44))
          have hbs := HDa.out.bel.size
          go_wp2_with (at_builtin; refine wpList_append_lies _ rfl _ _ _ rfl w.heap.size 44 i0 _ 2 24 Try.underlying22 HI.out HZ0.out HZ1.out HZ2.out rfl (by omega) v1 k (kSec es) rfl HA1.out.l ⟨wa.heap.size, 0, none⟩ 1 1 [.int .i64 n1, .string ⟨#[]⟩] rfl rfl (World.news_of_block (cs := #[.int .i64 n1, .string ⟨#[]⟩]) (t := 44) (fr := (0, 0)) (heap_alloc_new wa _)) (by simp [Value.oneCell']) (by omega) (by unfold maxLen; omega) (by omega) (by simp; omega) _ rfl ?_)
          intro ga ca wb howna hgrowa _ _
          have HDb := Lib.hid (HA1.out.app1 howna hgrowa)
          clear howna hgrowa HA1 HDa HI HZ0 HZ1 HZ2 hbs
          go_wp2_with fail
          refine (H2.out _ HDb.out.rd).mono ?_
          rintro e wc ⟨rfl, hon⟩
          have HDc := Lib.hid (HDb.out.call hon)
          clear hon HDb H2
          obtain ⟨i8, hi, hz0, hz1, hz2⟩ := info_parts infoU64
          have HI := Lib.hid hi; have HZ0 := Lib.hid hz0; have HZ1 := Lib.hid hz1; have HZ2 := Lib.hid hz2
          clear hi hz0 hz1 hz2
          have HA2 := Lib.hid (HDc.out.alloc (.cells #[.int .u64 n2] 53))
          have hbs := HDc.out.bel.size
          go_wp2_with (at_builtin; refine wpList_append_lies _ rfl _ _ _ rfl w.heap.size 53 i8 _ 1 8 Try.underlying73 HI.out HZ0.out HZ1.out HZ2.out rfl (by omega) v2 k (kLong es) rfl HA2.out.lo ⟨wc.heap.size, 0, none⟩ 1 1 [.int .u64 n2] rfl rfl (World.news_of_block (cs := #[.int .u64 n2]) (t := 53) (fr := (0, 0)) (heap_alloc_new wc _)) (by simp [Value.oneCell']) (by omega) (by unfold maxLen; omega) (by omega) (by simp; omega) _ rfl ?_)
          intro gb cb wd hownb hgrowb _ _
          have HDd := Lib.hid (HA2.out.app2 hownb hgrowb)
          clear hownb hgrowb HA2 HDc HI HZ0 HZ1 HZ2 hbs
          go_wp2_with fail
          refine (H3.out _ HDd.out.rd).mono ?_
          rintro e we ⟨rfl, hon⟩
          have HDe := Lib.hid (HDd.out.call hon)
          clear hon HDd H3
          obtain ⟨i4, hi, hz0, hz1, hz2⟩ := info_parts infoU32
          have HI := Lib.hid hi; have HZ0 := Lib.hid hz0; have HZ1 := Lib.hid hz1; have HZ2 := Lib.hid hz2
          clear hi hz0 hz1 hz2
          have HA3 := Lib.hid (HDe.out.alloc (.cells #[.int .u32 n3] 42))
          have hbs := HDe.out.bel.size
          go_wp2_with (at_builtin; refine wpList_append_lies _ rfl _ _ _ rfl w.heap.size 42 i4 _ 1 4 Try.underlying72 HI.out HZ0.out HZ1.out HZ2.out rfl (by omega) v3 k (kSum es) rfl HA3.out.su ⟨we.heap.size, 0, none⟩ 1 1 [.int .u32 n3] rfl rfl (World.news_of_block (cs := #[.int .u32 n3]) (t := 42) (fr := (0, 0)) (heap_alloc_new we _)) (by simp [Value.oneCell']) (by omega) (by unfold maxLen; omega) (by omega) (by simp; omega) _ rfl ?_)
          intro gc cc wf hownc hgrowc _ _
          have HDf := Lib.hid (HA3.out.app3 hownc hgrowc)
          clear hownc hgrowc HA3 HDe HI HZ0 HZ1 HZ2 hbs
          go_wp2_with fail
          go_roundw
          case rel => exact ⟨k + 1, _, _, _, by omega, by omega, by go_num, rfl, rfl, rfl, Lib.hid (by
            rw [Hnx.out]
            have h := HDf.out
            unfold kSec kLong kSum at h ⊢
            simp only [List.map_append, List.flatMap_append, List.map_cons, List.map_nil, List.flatMap_cons, List.flatMap_nil, List.append_nil]
            exact h)⟩
          case measure => simp [intOf]; omega
        · have hm17 : 16 < many := by omega
          obtain ⟨rfl, rfl⟩ : c = 23 ∧ N = [] := by
            have h := HD.out
            rw [decV_many Hl6.out (by rw [HR6.out, ← Hmany.out]; omega)] at h
            exact ⟨(congrArg Prod.fst h).symm, (congrArg Prod.snd h).symm⟩
          obtain ⟨cs, hq⟩ := hrel.out.rd.blk
          obtain ⟨⟨cc, ii, hbq, _⟩, _, _⟩ := hrel.out.rd
          have c1 := hbq.cell 1
          change wr.cell? ⟨w.heap.size, 1, none⟩ = some (.int .i64 (R7.ents k).2.at_) at c1
          have C4 := Lib.hid (refNum_any w.heap.size (R7.ents k).2 4 (by decide) wr hrel.out.rd)
          clear hq hbq
          generalize (R7.ents k).2 = RR at *
          go_wp2_with fail
          refine C4.out.mono ?_
          rintro e w4 ⟨rfl, hon⟩
          have HD4 := Lib.hid (hrel.out.call hon)
          clear hon
          go_wp2_with fail
          go_ret2
          exact ⟨none, 0, rfl, SlS.nil _, HD4.out.bel⟩
      · obtain rfl : many = k := by omega
        by_cases hm16 : many ≤ 16
        rotate_left
        · have hm17 : 16 < many := by omega
          obtain ⟨rfl, rfl⟩ : c = 23 ∧ N = [] := by
            have h := HD.out
            rw [decV_many Hl6.out (by rw [HR6.out, ← Hmany.out]; omega)] at h
            exact ⟨(congrArg Prod.fst h).symm, (congrArg Prod.snd h).symm⟩
          obtain ⟨⟨cc, ii, hbq, _⟩, _, _⟩ := hrel.out.rd
          have c1 := hbq.cell 1
          change wr.cell? ⟨w.heap.size, 1, none⟩ = some (.int .i64 (R7.ents many).2.at_) at c1
          have C4 := Lib.hid (refNum_any w.heap.size (R7.ents many).2 4 (by decide) wr hrel.out.rd)
          clear hbq
          generalize (R7.ents many).2 = RR at *
          go_wp2_with fail
          refine C4.out.mono ?_
          rintro e w4 ⟨rfl, hon⟩
          have HD4 := Lib.hid (hrel.out.call hon)
          clear hon
          go_wp2_with fail
          go_ret2
          exact ⟨none, 0, rfl, SlS.nil _, HD4.out.bel⟩
        · have hhead := head_some Hl6.out (by rw [HR6.out, ← Hmany.out]; exact hm16)
          rw [HR6.out, ← Hmany.out, ← HR7.out] at hhead
          obtain ⟨RR, hRR⟩ : ∃ R, R = (R7.ents many).2 := ⟨_, rfl⟩
          obtain ⟨es, hes⟩ : ∃ es, es = (R7.ents many).1 := ⟨_, rfl⟩
          have hesl : es.length = many := by rw [hes, RS.ents_length]
          have hRRs : RR.s = s := by rw [hRR, RS.ents_s]; exact Hs7.out
          have hhd : R7.ents many = (es, RR) := by rw [hes, hRR]
          rw [hhd] at hhead hrel
          simp only at hrel
          have Hhead := Lib.hid hhead; have Hesl := Lib.hid hesl
          clear hhead hesl hhd hes hRR Hl6 HR6 Hmany HR7 Hs7 Hs6
          obtain ⟨⟨cc, ii, hbq, _⟩, hple, _⟩ := hrel.out.rd
          have c1 := hbq.cell 1
          change wr.cell? ⟨w.heap.size, 1, none⟩ = some (.int .i64 RR.at_) at c1
          rw [hRRs] at hple
          have C4 := Lib.hid (refNum_any w.heap.size RR 4 (by decide) wr hrel.out.rd)
          obtain ⟨n4, hn4⟩ : ∃ n, n = (RR.num 4).1 := ⟨_, rfl⟩
          obtain ⟨R4, hR4⟩ : ∃ R, R = (RR.num 4).2 := ⟨_, rfl⟩
          have hn4b : n4 < 4294967296 := by rw [hn4]; exact RS.num_lt RR 4
          have hR4s : R4.s = s := by rw [hR4, RS.num_s]; exact hRRs
          have hex : ∃ p, p = RR.at_ := ⟨_, rfl⟩
          obtain ⟨p, hp⟩ := hex
          obtain ⟨cr, hcr⟩ : ∃ cr, cr = Crc.sum (s.extract 0 p).data.toList := ⟨_, rfl⟩
          have hcrl : cr < 4294967296 := by rw [hcr]; exact Crc.sum_lt _
          have DF := Lib.hid (fun hf => decV_f Hhead.out hf)
          have DS := Lib.hid (fun hf hn => decV_sum Hhead.out hf hn)
          have DL := Lib.hid (fun hf hn hd => decV_left Hhead.out hf hn hd)
          have DB := Lib.hid (fun hf hn hd => decV_bods Hhead.out hf hn hd)
          rw [← hn4, ← hR4] at C4
          rw [← hR4] at DF
          rw [← hn4, ← hR4, ← hp, ← hcr] at DS DL DB
          rw [← hp] at c1 hple
          have CS := Lib.hid (fun u => refSum_is cr (s.extract 0 p) (by rw [ByteArray.size_extract]; omega) u hcr.symm)
          have HR4s := Lib.hid hR4s
          clear hn4 hR4 hR4s hRRs hp hcr hbq
          have w4' : IntKind.u32.wrap (n4 : Int) = n4 := by simp [IntKind.wrap, IntKind.signed, IntKind.bits]; omega
          go_wp2_with fail
          refine C4.out.mono ?_
          rintro e w4 ⟨rfl, hon⟩
          have HD4 := Lib.hid (hrel.out.call hon)
          clear hon C4 hrel Hhead
          obtain ⟨⟨c4, i4, hb4, hf4⟩, hle4, _⟩ := HD4.out.rd
          have k1 := hb4.cell 1
          have k2 := hb4.cell 2
          change w4.cell? ⟨w.heap.size, 1, none⟩ = some (.int .i64 R4.at_) at k1
          change w4.cell? ⟨w.heap.size, 2, none⟩ = some (.int .i64 c4) at k2
          rw [HR4s.out] at hle4
          clear hb4 c1
          rcases hf4 with ⟨hf, rfl, _⟩ | ⟨hf, hc4⟩
          rotate_left
          · obtain ⟨rfl, rfl⟩ : c = 23 ∧ N = [] := by
              have h := HD.out
              rw [DF.out (by rw [hf]; rfl)] at h
              exact ⟨(congrArg Prod.fst h).symm, (congrArg Prod.snd h).symm⟩
            have hcz : (c4 != 0) = true := by rw [bne_iff_ne]; exact hc4
            clear hf hc4
            go_wp2_with fail
            go_ret2
            exact ⟨none, 0, rfl, SlS.nil _, HD4.out.bel⟩
          · have Hf := Lib.hid hf
            clear hf
            have p1 : (0 : Int) ≤ (p : Int) := by omega
            have p2 : (p : Int) ≤ (s.size : Int) := by omega
            by_cases hnc : n4 = cr
            rotate_left
            · obtain ⟨rfl, rfl⟩ : c = 23 ∧ N = [] := by
                have h := HD.out
                rw [DS.out Hf.out hnc] at h
                exact ⟨(congrArg Prod.fst h).symm, (congrArg Prod.snd h).symm⟩
              have hz1 : (n4 == cr) = false := by rw [beq_eq_false_iff_ne]; exact hnc
              have hz2 : ((n4 : Int) != (cr : Int)) = true := by rw [bne_iff_ne]; omega
              clear hnc
              go_wp2_with fail
              refine (CS.out w4).mono ?_
              rintro e w5 ⟨rfl, rfl⟩
              go_wp2_with fail
              go_ret2
              exact ⟨none, 0, rfl, SlS.nil _, HD4.out.bel⟩
            · obtain rfl : n4 = cr := hnc
              obtain ⟨left, hleft⟩ : ∃ left : Nat, left = s.size - R4.at_ := ⟨_, rfl⟩
              have l1 : (s.size : Int) - (R4.at_ : Int) = (left : Int) := by omega
              have l2 : IntKind.i64.wrap (left : Int) = left := wrap_small _ (by omega) (by omega)
              have l3 : IntKind.u64.wrap (left : Int) = left := by rw [n64_wrap, n64_nat _ (by omega)]
              have l4 : left ≤ 1000000 := by omega
              have DL2 := Lib.hid (fun hd => DL.out Hf.out rfl hd)
              have DB2 := Lib.hid (fun hd => DB.out Hf.out rfl hd)
              rw [← hleft] at DL2 DB2
              have Hleft := Lib.hid hleft
              clear hleft DF DS DL DB
              go_wp2_with fail
              refine (CS.out w4).mono ?_
              rintro e w5 ⟨rfl, rfl⟩
              go_wp2_with fail
              clear l1 l2 l3
              have r2 := row_form HD4.out.lo
              obtain ⟨a2, cap2, rfl, _, hm2, hc2⟩ := r2
              have HC2 := Lib.hid hc2
              unfold maxLen at hm2
              clear hc2
              go_loop [12, 13] (fun l i => ∃ k lf : Nat, k ≤ many ∧ lf ≤ left ∧ i = .int .i64 k ∧ l = .int .u64 lf ∧ Hid (dsum (es.drop k) lf = dsum es left)) (fun _ i => many - (intOf i).toNat)
              case atStart => exact ⟨0, left, Nat.zero_le _, Nat.le_refl _, rfl, rfl, Lib.hid (by rw [List.drop_zero])⟩
              case round =>
                obtain ⟨k, lf, hk, hlf, rfl, rfl, hds⟩ := hrel
                by_cases hlt : k < many
                · have hkl : k < es.length := by rw [Hesl.out]; exact hlt
                  have hds' := hds.out
                  rw [List.drop_eq_getElem_cons hkl] at hds'
                  obtain ⟨g2, hg2, _, hcell, _⟩ := HC2.out k (.int .u64 (es[k].2.1 : Nat)) (by unfold kLong; rw [List.getElem?_map, List.getElem?_eq_getElem hkl]; rfl)
                  subst hg2
                  generalize es[k] = x at *
                  obtain ⟨x1, x2, x3⟩ := x
                  simp only at hcell
                  have hd1 : dsum ((x1, x2, x3) :: es.drop (k + 1)) lf = if x2 ≤ lf then dsum (es.drop (k + 1)) (lf - x2) else none := rfl
                  rw [hd1] at hds'
                  by_cases hle : x2 ≤ lf
                  · rw [if_pos hle] at hds'
                    obtain ⟨l', hl'⟩ : ∃ l', l' = lf - x2 := ⟨_, rfl⟩
                    have q1 : (lf : Int) - (x2 : Int) = (l' : Int) := by omega
                    have q2 : IntKind.u64.wrap (l' : Int) = l' := by rw [n64_wrap, n64_nat _ (by omega)]
                    have q3 : l' ≤ left := by omega
                    rw [← hl'] at hds'
                    have Hds := Lib.hid hds'
                    clear hds' hds hd1 hl'
                    go_wp2_with fail
                    go_round
                    case rel => exact ⟨k + 1, l', by omega, q3, by go_num, by first | rfl | rw [q1], Hds⟩
                    case measure => simp [intOf]; omega
                  · rw [if_neg hle] at hds'
                    obtain ⟨rfl, rfl⟩ : c = 23 ∧ N = [] := by
                      have h := HD.out
                      rw [DL2.out (by rw [← hds']; simp)] at h
                      exact ⟨(congrArg Prod.fst h).symm, (congrArg Prod.snd h).symm⟩
                    have hle' : lf < x2 := by omega
                    clear hds' hds hd1 hle
                    go_wp2_with fail
                    go_ret2
                    exact ⟨none, 0, rfl, SlS.nil _, HD4.out.bel⟩
                · obtain rfl : many = k := by omega
                  have hds' := hds.out
                  rw [List.drop_of_length_le (by rw [Hesl.out]; exact Nat.le_refl _)] at hds'
                  have hd1 : dsum [] lf = some lf := rfl
                  rw [hd1] at hds'
                  by_cases hz : 0 < lf
                  · obtain ⟨rfl, rfl⟩ : c = 23 ∧ N = [] := by
                      have h := HD.out
                      rw [DL2.out (by rw [← hds']; simp; omega)] at h
                      exact ⟨(congrArg Prod.fst h).symm, (congrArg Prod.snd h).symm⟩
                    clear hds' hds hd1
                    go_wp2_with fail
                    go_ret2
                    exact ⟨none, 0, rfl, SlS.nil _, HD4.out.bel⟩
                  · obtain rfl : lf = 0 := by omega
                    have hdl := dsum_le es left 0 hds'.symm
                    have HDl := Lib.hid hdl
                    have hB := DB2.out hds'.symm
                    rw [HD.out] at hB
                    have HB := Lib.hid hB
                    clear hds' hds hd1 hB hdl hz HC2 DL2 DB2 CS k1 k2
                    obtain ⟨a1, cap1, hv1, _, hm1, _⟩ := row_form HD4.out.l
                    obtain ⟨a3, cap3, hv3, _, hm3, _⟩ := row_form HD4.out.su
                    subst hv1 hv3
                    unfold maxLen at hm1 hm3
                    go_wp2_with fail
                    go_loopw [14] (fun i wr => ∃ (k : Nat) (pre : List (Int × ByteArray)) (Rj : RS), k ≤ many ∧ i = .int .i64 k ∧ Hid (pre.length = k ∧ D3 w wr w.heap.size Rj (.slice a1 many cap1) many ((pre ++ (es.drop k).map secE).flatMap secC) (.slice a2 many cap2) many (kLong es) (.slice a3 many cap3) many (kSum es) ∧ R4.bods es = (Rj.bods (es.drop k)).map (pre ++ ·))) (fun i _ => many - (intOf i).toNat)
                    case atStart => exact ⟨0, [], R4, Nat.zero_le _, rfl, Lib.hid ⟨rfl, HD4.out, by rw [List.drop_zero]; cases R4.bods es <;> rfl⟩⟩
                    case round =>
                      clear HD4
                      obtain ⟨k, pre, Rj, hk, rfl, hrel⟩ := hrel
                      by_cases hlt : k < many
                      · have hkl : k < es.length := by rw [Hesl.out]; exact hlt
                        have hpl := hrel.out.1
                        have hd3 := hrel.out.2.1
                        have hbo := hrel.out.2.2
                        rw [List.drop_eq_getElem_cons hkl] at hbo hd3
                        have hx2l := HDl.out _ (List.getElem_mem hkl)
                        obtain ⟨g2, hg2, _, hcell, _⟩ := row_cell hd3.lo k (.int .u64 (es[k].2.1 : Nat)) (by unfold kLong; rw [List.getElem?_map, List.getElem?_eq_getElem hkl]; rfl)
                        have hsm : (kSum es)[k]? = some (.int .u32 (es[k].2.2 : Nat)) := by unfold kSum; rw [List.getElem?_map, List.getElem?_eq_getElem hkl]; rfl
                        generalize es[k] = x at *
                        obtain ⟨x1, x2, x3⟩ := x
                        simp only at hcell hsm hx2l
                        rw [RS.bods_cons] at hbo
                        simp only at hbo
                        obtain ⟨b, hb⟩ : ∃ b, b = (Rj.take (x2 : Int)).1 := ⟨_, rfl⟩
                        obtain ⟨R', hR'⟩ : ∃ R, R = (Rj.take (x2 : Int)).2 := ⟨_, rfl⟩
                        have hbs : b.size ≤ 1000000 := by
                          have := RS.take_size' Rj (x2 : Int)
                          rw [← hb] at this; omega
                        have CT := Lib.hid (refTake_any w.heap.size Rj x2 wr hd3.rd (by omega))
                        rw [← hb, ← hR'] at CT hbo
                        obtain ⟨cr, hcr⟩ : ∃ cr, cr = Crc.sum b.data.toList := ⟨_, rfl⟩
                        have hcrl : cr < 4294967296 := by rw [hcr]; exact Crc.sum_lt _
                        have CS := Lib.hid (fun u => refSum_is cr b hbs u hcr.symm)
                        rw [← hcr] at hbo
                        have Hd3 := Lib.hid hd3; have Hbo := Lib.hid hbo; have Hpl := Lib.hid hpl; have Hsm := Lib.hid hsm
                        subst hg2
                        clear hd3 hbo hpl hb hR' hcr hrel hsm
                        have t1 : IntKind.i64.wrap (x2 : Int) = x2 := wrap_small _ (by omega) (by omega)
                        have i1 : (0 : Int) ≤ (k : Int) := by omega
                        have i2 : (k : Int) < (many : Int) := by omega
                        go_wp2_with fail
                        refine CT.out.mono ?_
                        rintro e wt ⟨rfl, hon⟩
                        have hd4 := Hd3.out.call hon
                        have hxs0 : ((pre ++ ((x1, x2, x3) :: es.drop (k + 1)).map secE).flatMap secC)[k * 2 + 1]? = some (.string ⟨#[]⟩) := by
                          rw [flat_get 2 secC (fun _ => rfl) _ k 1 (by decide), List.getElem?_append_right (by rw [Hpl.out]; exact Nat.le_refl _), Hpl.out, Nat.sub_self]
                          rfl
                        obtain ⟨g1, hg1, _, hc1, hf1⟩ := row_cell hd4.l (k * 2 + 1) _ hxs0
                        subst hg1
                        have hxs1 : ((pre ++ ((x1, x2, x3) :: es.drop (k + 1)).map secE).flatMap secC).set (k * 2 + 1) (.string b) = ((pre ++ [((x1 : Int), b)]) ++ (es.drop (k + 1)).map secE).flatMap secC := set_body pre (x1, x2, x3) (es.drop (k + 1)) b k Hpl.out
                        have hd5 := hd4.app1 (row_set hd4.l (k * 2 + 1) (.string b)) grown_set
                        rw [hxs1] at hd5
                        have HD5 := Lib.hid hd5
                        clear hd4 hd5 hxs1 hxs0 hon CT Hd3 hcell t1
                        go_wp2_with fail
                        generalize wt.setCell ⟨g1, k * 2 + 1, none⟩ (.string b) = wu at *
                        obtain ⟨g3, hg3, _, hc3, _⟩ := row_cell HD5.out.su k _ Hsm.out
                        obtain ⟨g1', hg1', _, hc4, _⟩ := row_cell HD5.out.l (k * 2 + 1) (.string b) (by
                          rw [flat_get 2 secC (fun _ => rfl) _ k 1 (by decide), List.getElem?_append_left (by rw [List.length_append, Hpl.out]; simp), List.getElem?_append_right (by rw [Hpl.out]; exact Nat.le_refl _), Hpl.out, Nat.sub_self]
                          rfl)
                        have hg1e : g1 = g1' := by simpa using hg1'
                        subst hg1e hg3
                        clear hg1' hc1 hf1
                        go_region_held3 (fun w' => w'.cell? ⟨g1, k * 2 + 1, none⟩ = some (.string b) ∧ w'.cell? ⟨g3, k, none⟩ = some (.int .u32 (x3 : Nat))) (exact ⟨hc4, hc3⟩)
                          ((go_at_call 18; (with_reducible refine (CS.out _).mono ?_); rintro e w' ⟨rfl, rfl⟩))
                        all_goals
                          have HD6 := Lib.hid (HD5.out.later ((Below.refl _ _).drew))
                          clear hc3 hc4 HD5
                          generalize wu.drew = wv at *
                          by_cases hcx : cr = x3
                          · have hbo := Hbo.out
                            rw [if_pos hcx] at hbo
                            have hbo2 : R4.bods es = (R'.bods (es.drop (k + 1))).map ((pre ++ [((x1 : Int), b)]) ++ ·) := by
                              rw [hbo]
                              cases R'.bods (es.drop (k + 1)) with
                              | none => rfl
                              | some l => simp
                            have HB2 := Lib.hid hbo2
                            subst hcx
                            clear hbo hbo2 Hbo
                            go_wp2_with fail
                            go_roundw
                            case rel => exact ⟨k + 1, pre ++ [((x1 : Int), b)], R', by omega, by go_num, Lib.hid ⟨by rw [List.length_append, Hpl.out]; rfl, HD6.out, HB2.out⟩⟩
                            case measure => simp [intOf]; omega
                          · have hbo := Hbo.out
                            rw [if_neg hcx] at hbo
                            obtain ⟨rfl, rfl⟩ : c = 24 ∧ N = [] := by
                              have h := HB.out
                              rw [hbo] at h
                              exact ⟨congrArg Prod.fst h, congrArg Prod.snd h⟩
                            have hz2 : ((cr : Int) != (x3 : Int)) = true := by rw [bne_iff_ne]; omega
                            clear hbo Hbo hcx
                            go_wp2_with fail
                            go_ret2
                            exact ⟨none, 0, rfl, SlS.nil _, HD6.out.bel⟩
                      · obtain rfl : many = k := by omega
                        have hb3 := hrel.out.2.2
                        have hd3 := hrel.out.2.1
                        rw [List.drop_of_length_le (by rw [Hesl.out]; exact Nat.le_refl _)] at hb3 hd3
                        have hd0 : Rj.bods [] = some [] := rfl
                        rw [hd0] at hb3
                        simp only [Option.map_some, List.append_nil] at hb3
                        rw [List.map_nil, List.append_nil] at hd3
                        obtain ⟨rfl, rfl⟩ : c = 0 ∧ N = pre := by
                          have h := HB.out
                          rw [hb3] at h
                          exact ⟨congrArg Prod.fst h, congrArg Prod.snd h⟩
                        have HSl := Lib.hid (SlS.of hrel.out.1 hd3.l)
                        have HBl := Lib.hid hd3.bel
                        have HNl := Lib.hid hrel.out.1
                        clear hb3 hd3 hd0 hrel HB HD
                        go_wp2_with fail
                        go_ret2
                        rw [← HNl.out]
                        have h := HSl.out
                        rw [← HNl.out] at h
                        exact ⟨a1, cap1, rfl, h, HBl.out⟩
  · have h23 : c = 23 ∧ N = [] := by
      have h := HD.out
      have hh : RS.head ⟨s, 0, none⟩ = none := by
        unfold RS.head
        rw [if_neg (by rw [Hl6.out]; intro e; exact h6 (congrArg (fun b : ByteArray => b.data.toList) e))]
      unfold decV at h
      rw [hh] at h
      exact ⟨(congrArg Prod.fst h).symm, (congrArg Prod.snd h).symm⟩
    obtain ⟨rfl, rfl⟩ := h23
    have hne : (l6 == [77, 73, 76, 69, 49, 1]) = false := by rw [beq_eq_false_iff_ne]; exact h6
    have hne' : (l6 != [77, 73, 76, 69, 49, 1]) = true := by rw [bne_iff_ne]; exact h6
    clear h6
    go_enter Try.func16, Try.ntmps16
    go_wp2_with fail
    refine C6.out.mono ?_
    rintro e w1 ⟨rfl, hon⟩
    have HD1 := Lib.hid (HD0.out.call hon)
    clear hon C6 HD0
    go_wp2_with fail
    go_ret2
    exact ⟨none, 0, rfl, SlS.nil _, HD1.out.bel⟩
end Go.Proofs.Ytaikcehdomaebaa
