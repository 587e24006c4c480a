/- THE WALKS over frame: decode. -/
import Derived.Test.YtaikcehdomaebaaFrEnt
import Derived.Test.YtaikcehdomaebaaOctErr
import Derived.Maps.OwnIn
import Derived.Test.YtaikcehdomaebaaFrEnc
import Derived.Test.YtaikcehdomaebaaFCrcWB
namespace Go.Proofs.Ytaikcehdomaebaa
open Go.RowKit Go.Shelf
attribute [local go_sem] Oper.semAt_some
theorem entries_any (fr : Nat) (w : World) : Calls Try.prog 40 #[.pointer (some ⟨fr, 0, none⟩)] w fun e w' =>
    ∃ Br, e = .returned (.func (.func 49) #[] #[.pointer (some ⟨Br, 0, none⟩)]) ∧ Blk w' Br #[.pointer (some ⟨fr, 0, none⟩)] 59 (0, 0) ∧ w.heap.size ≤ Br ∧ Below w.heap.size w w' := by
  go_enter Try.func40, Try.ntmps40
  go_wp2
  go_ret
  exact ⟨_, rfl, Blk.new _ _ _ _, Nat.le_refl _, (Below.refl _ _).alloc (Nat.le_refl _) _⟩
/-- what is left, if the lengths are taken from it -/
def dsum : List En → Nat → Option Nat
  | [], n => some n
  | x :: xs, n => if x.2.1 ≤ n then dsum xs (n - x.2.1) else none
/-- the bodies, if their sums are right -/
def RS.bods : RS → List En → Option (List (Int × ByteArray))
  | _, [] => some []
  | R, x :: xs => if Crc.sum (R.take x.2.1).1.data.toList = x.2.2 then ((R.take x.2.1).2.bods xs).map (((x.1 : Int), (R.take x.2.1).1) :: ·) else none
/-- what Decode answers: what is wrong, the sections -/
def decV (s : ByteArray) : Int × List (Int × ByteArray) :=
  match RS.head ⟨s, 0, none⟩ with
  | none => (23, [])
  | some (es, R) =>
    if (R.num 4).2.f.isSome then (23, [])
    else if (R.num 4).1 ≠ Crc.sum (s.extract 0 R.at_).data.toList then (23, [])
    else if dsum es (s.size - (R.num 4).2.at_) ≠ some 0 then (23, [])
    else match (R.num 4).2.bods es with
      | none => (24, [])
      | some L => (0, L)
theorem infoEn : (Try.prog.info? 88).map (fun i => (i.zero, i.size, i.bytes)) = some (some (.agg #[.int .i64 0, .int .u64 0, .int .u32 0]), 3, 24) := by kernel_rfl
/-- an entry's cells -/
def enC (x : En) : List Value := [.int .i64 (x.1 : Nat), .int .u64 (x.2.1 : Nat), .int .u32 (x.2.2 : Nat)]
theorem ownsRow_agree {w w' : World} {base : Nat} {e : TypeId} {size : Nat} {v : Value} {n : Nat} {xs : List Value} (h : w.ownsRow base e size v n xs) (hb : ∀ k, v.ownBlock = some k → w'.heap[k]? = w.heap[k]?) : w'.ownsRow base e size v n xs := by
  refine ⟨h.1, ?_⟩
  rcases h.2 with h0 | ⟨g, cap, cur, rfl, h1, h2, h3⟩
  · exact .inl h0
  · exact .inr ⟨g, cap, cur, rfl, h1, (hb g (by simp [Value.ownBlock])).trans h2, h3⟩
theorem ownsRow_blk {w : World} {base : Nat} {e : TypeId} {size : Nat} {v : Value} {n : Nat} {xs : List Value} (h : w.ownsRow base e size v n xs) {g : Nat} (hg : v.ownBlock = some g) : base ≤ g ∧ ∃ cur, Blk w g cur e (0, 0) := by
  rcases h.2 with ⟨rfl, _⟩ | ⟨g', cap, cur, rfl, h1, h2, _⟩
  · cases hg
  · obtain rfl : g' = g := by simpa [Value.ownBlock] using hg
    exact ⟨h1, cur, h2⟩
theorem news_of {w : World} {b : Nat} {cs : List Value} {t : TypeId} {fr : Nat × Nat} (h : Blk w b cs.toArray t fr) : ∀ (j : Nat) u, cs[j]? = some u → w.cell? ((⟨b, 0, none⟩ : Addr).add j) = some u := by
  intro j u hj
  have h1 := h.cell j
  have e : (⟨b, 0, none⟩ : Addr).add j = ⟨b, j, none⟩ := by
    unfold Addr.add
    split
    · subst j; rfl
    · simp
  rw [e, h1]; simpa using hj
/-- while the head's entries come -/
structure InvD (w w1 : World) (fr q : Nat) (s : ByteArray) (pre : List En) (W : World) : Prop where
  row : ∃ v, Blk W w.heap.size #[v] 83 (0, 0) ∧ W.ownsRow w.heap.size 88 3 v pre.length (pre.flatMap enC)
  fr : Blk W fr #[.pointer (some ⟨q, 0, none⟩), .string s] 63 (0, 0)
  kept : Kept (· = q) w W
  size : w1.heap.size ≤ W.heap.size
theorem InvD.to {w w1 A B : World} {fr q : Nat} {s : ByteArray} {pre : List En} (h : InvD w w1 fr q s pre A) (hk : Kept (· = q) w B) (hs : A.heap.size ≤ B.heap.size) (hb : ∀ k cs t f, Blk A k cs t f → k ≠ q → B.heap[k]? = A.heap[k]?) (hT : w.heap.size ≠ q) (hq : q < w.heap.size) (hf : fr ≠ q) : InvD w w1 fr q s pre B := by
  obtain ⟨⟨v, h1, h2⟩, h3, h4, h5⟩ := h
  refine ⟨⟨v, (hb _ _ _ _ h1 hT).trans h1, ownsRow_agree h2 fun g hg => ?_⟩, (hb _ _ _ _ h3 hf).trans h3, hk, Nat.le_trans h5 hs⟩
  obtain ⟨hg1, cur, hg2⟩ := ownsRow_blk h2 hg
  exact hb _ _ _ _ hg2 (by omega)
/-- ahead of a round -/
def AheadD (w w1 : World) (fr q Br : Nat) (s : ByteArray) (pre : List En) (x : En) (a : Act) (W : World) : Prop :=
  ∃ b T, T = w.heap.size ∧ a = { tmps := #[.pointer (some ⟨fr, 0, none⟩), undef, .slice none 0 0, .pointer (some ⟨T, 0, none⟩), .pointer (some ⟨b, 0, none⟩), undef, undef, undef, undef, undef, undef, undef, .pointer (some ⟨fr, 0, none⟩), .func (.func 49) #[] #[.pointer (some ⟨Br, 0, none⟩)], .agg #[.int .i64 (x.1 : Nat), .int .u64 (x.2.1 : Nat), .int .u32 (x.2.2 : Nat)], undef, undef, undef, undef, undef, undef, undef, undef, undef, undef, undef, undef, undef, undef, undef, undef, undef, undef, undef, undef, undef, undef, undef, undef, undef, undef, undef, undef, undef, undef, undef, undef, undef, undef, undef, undef, undef, undef, undef, undef, undef, undef, undef, undef, undef, undef, undef, undef, undef, undef, undef, undef, undef, undef, undef, undef, undef, undef, undef, undef, undef, undef, undef, undef, undef, undef, undef, undef, undef, undef, undef, undef, undef, undef, undef, undef, undef, undef, undef, undef, undef, undef, undef, undef, undef, undef, undef, undef, undef, undef, undef], defers := [] } ∧ Blk W b (enC x).toArray 88 (0, 0) ∧ InvD w w1 fr q s pre W
theorem put_blk {A : World} {l : Nat} {o o' : Obj} (ho : A.heap[l]? = some o) (hc : o.isCells = false) (k : Nat) (cs : Array Value) (t : TypeId) (f : Nat × Nat) (hb : Blk A k cs t f) (_ : True) : (A.putObj l o').heap[k]? = A.heap[k]? := by
  refine World.putObj_heap_other (fun e => ?_)
  subst e
  rw [show A.heap[k]? = _ from hb] at ho
  cases ho; cases hc
theorem Kept.put {S : Nat → Prop} {w A : World} (h : Kept S w A) {l : Nat} {o' : Obj} (hl : w.heap.size ≤ l) : Kept S w (A.putObj l o') :=
  ⟨h.os, h.tape, h.output, by simpa using h.size, fun k hk hs => (World.putObj_heap_other (by omega)).trans (h.block k hk hs)⟩
theorem leavesM_panic {F : Fence} {n : Nat} {P : Program} {fn : Func} {tmps : Array Value} {R : Ending → World → Prop} {D : Nat} {ch : List PanicEntry} {W : World} (hK : W.heap[D]? = some (.deferred (some []))) (h : R (.panicked ch) (W.putObj D (.deferred none))) :
    LeavesInM F n P fn tmps R [{ target := .collected D, args := #[] }] (.panicking ch) W := ⟨by simp, .inl ⟨_, _, rfl, run_takeDeferred hK, h⟩⟩
theorem RS.take_s (R : RS) (n : Int) : (R.take n).2.s = R.s := by
  unfold RS.take
  split
  · rfl
  · split
    · rfl
    · split <;> rfl
theorem RS.take_size' (R : RS) (n : Int) : (R.take n).1.size ≤ n.toNat := by
  unfold RS.take
  split
  · exact Nat.zero_le _
  · split
    · exact Nat.zero_le _
    · split
      · exact Nat.zero_le _
      · rw [ByteArray.size_extract]; omega
theorem RS.num_s (R : RS) (k : Nat) : (R.num k).2.s = R.s := R.take_s k
theorem RS.ents_s (R : RS) (k : Nat) : (R.ents k).2.s = R.s := by
  induction k with
  | zero => rfl
  | succ k ih =>
    show ((((R.ents k).2.num 1).2.num 8).2.num 4).2.s = R.s
    rw [RS.num_s, RS.num_s, RS.num_s, ih]
theorem RS.head_s {R R' : RS} {es : List En} (h : R.head = some (es, R')) : R'.s = R.s := by
  unfold RS.head at h
  split at h
  · split at h
    · have := Option.some.inj h
      have e2 : R' = (((R.take 6).2.num 1).2.ents ((R.take 6).2.num 1).1).2 := by rw [this]
      rw [e2, RS.ents_s, RS.num_s, RS.take_s]
    · cases h
  · cases h
theorem RS.head_len {R R' : RS} {es : List En} (h : R.head = some (es, R')) : es.length ≤ 16 := by
  unfold RS.head at h
  split at h
  · split at h
    · rename_i h16
      have := Option.some.inj h
      have e2 : es = (((R.take 6).2.num 1).2.ents ((R.take 6).2.num 1).1).1 := by rw [this]
      rw [e2, RS.ents_length]; exact h16
    · cases h
  · cases h
theorem Kept.andBelow {S : Nat → Prop} {w A B : World} (h : Kept S w A) (hb : Below w.heap.size A B) : Kept S w B :=
  ⟨hb.os.trans h.os, hb.tape.trans h.tape, hb.output.trans h.output, Nat.le_trans h.size hb.size, fun k hk hs => (hb.block k hk).trans (h.block k hk hs)⟩
theorem Kept.grown {S : Nat → Prop} {w A B : World} {row : Option Nat} (h : Kept S w A) (hg : A.grownBy B row) (hr : ∀ j, row = some j → w.heap.size ≤ j) : Kept S w B :=
  ⟨hg.os.trans h.os, hg.tape.trans h.tape, hg.output.trans h.output, Nat.le_trans h.size hg.size, fun k hk hs => (hg.block k (Nat.lt_of_lt_of_le hk h.size) (fun e => by have := hr k e.symm; omega)).trans (h.block k hk hs)⟩
theorem Ro.types {fu : Bool} {W W' : World} {q : Nat} {R : RS} (hr : Ro fu W q R) (h : ∀ k cs t fr, Blk W k cs t fr → t ≠ 44 → Blk W' k cs t fr) : Ro fu W' q R := by
  obtain ⟨⟨fp, h1, h2, h3⟩, hl, hs⟩ := hr
  exact ⟨⟨fp, h _ _ _ _ h1 (by decide), h2, fun c i hf => by obtain ⟨b, e, e2⟩ := h3 c i hf; exact ⟨b, e, fun hfu => ⟨(e2 hfu).1, h _ _ _ _ (e2 hfu).2 (by decide)⟩⟩⟩, hl, hs⟩
theorem KpT.put {A : World} {l : Nat} {o o' : Obj} (ho : A.heap[l]? = some o) (hc : o.isCells = false) : KpT A (A.putObj l o') :=
  ⟨by simp, fun k cs t f hk _ _ => put_blk ho hc k cs t f hk trivial⟩
theorem Ro.put {fu : Bool} {A : World} {q : Nat} {R : RS} (h : Ro fu A q R) {l : Nat} {o o' : Obj} (ho : A.heap[l]? = some o) (hc : o.isCells = false) : Ro fu (A.putObj l o') q R := KpT.ro (KpT.put ho hc) h
theorem flat_get {α : Type} (m : Nat) (f : α → List Value) (hf : ∀ x, (f x).length = m) : ∀ (l : List α) (i d : Nat), d < m → (l.flatMap f)[i * m + d]? = (l[i]?).bind fun x => (f x)[d]? := by
  intro l
  induction l with
  | nil => intro i d _; simp
  | cons x l ih =>
    intro i d hd
    rw [List.flatMap_cons]
    cases i with
    | zero => rw [Nat.zero_mul, Nat.zero_add, List.getElem?_append_left (by rw [hf]; exact hd)]; rfl
    | succ i =>
      rw [List.getElem?_append_right (by rw [hf, Nat.succ_mul]; omega), hf, show (i + 1) * m + d - m = i * m + d by rw [Nat.succ_mul]; omega, ih i d hd]
      simp
/-- a row of entries; not at q -/
def SlE (q : Nat) (w : World) (v : Value) (es : List En) : Prop :=
  ∃ (a : Option Addr) (cap : Nat), v = .slice a es.length cap ∧ es.length ≤ cap ∧ cap ≤ maxLen ∧ ∀ i (h : i < es.length), ∃ b off, a = some ⟨b, off, none⟩ ∧ b < w.heap.size ∧ b ≠ q ∧
    w.cell? ⟨b, off + i * 3, none⟩ = some (.int .i64 (es[i].1 : Nat)) ∧ w.cell? ⟨b, off + i * 3 + 1, none⟩ = some (.int .u64 (es[i].2.1 : Nat)) ∧ w.cell? ⟨b, off + i * 3 + 2, none⟩ = some (.int .u32 (es[i].2.2 : Nat))
theorem SlE.of {q : Nat} {w : World} {base : Nat} {v : Value} {es : List En} (h : w.ownsRow base 88 3 v es.length (es.flatMap enC)) (hq : q < base) : SlE q w v es := by
  rcases id h.2 with ⟨hv, h0⟩ | ⟨g, cap, cur, hv, h1, h2, h3, h4, _⟩
  · exact ⟨none, 0, by rw [hv, h0], by omega, Nat.zero_le _, fun i hi => by omega⟩
  · subst hv
    have hc : ∀ i (hi : i < es.length) d, d < 3 → w.cell? ⟨g, 0 + i * 3 + d, none⟩ = (enC es[i])[d]? := fun i hi d hd => by
      rw [Nat.zero_add, h.cellAt (i * 3 + d) (by omega), flat_get 3 enC (fun _ => rfl) es i d hd, List.getElem?_eq_getElem hi]; rfl
    exact ⟨_, cap, rfl, h3, h4, fun i hi => ⟨g, 0, rfl, (Array.getElem?_eq_some_iff.1 h2).1, by omega, hc i hi 0 (by omega), hc i hi 1 (by omega), hc i hi 2 (by omega)⟩⟩
theorem SlE.kept {q : Nat} {w w' : World} {v : Value} {es : List En} (h : SlE q w v es) (hk : Kept (· = q) w w') : SlE q w' v es := by
  obtain ⟨a, cap, rfl, h1, h2, h3⟩ := h
  refine ⟨a, cap, rfl, h1, h2, fun i hi => ?_⟩
  obtain ⟨b, off, rfl, hb, hq, c0, c1, c2⟩ := h3 i hi
  have e := hk.block b hb hq
  exact ⟨b, off, rfl, Nat.lt_of_lt_of_le hb hk.size, hq, (World.cell?_of_block e).trans c0, (World.cell?_of_block e).trans c1, (World.cell?_of_block e).trans c2⟩
theorem infoSe : (Try.prog.info? 44).map (fun i => (i.zero, i.size, i.bytes)) = some (some (.agg #[.int .i64 0, .string ⟨#[]⟩]), 2, 24) := by kernel_rfl
/-- a section's cells -/
def secC (x : Int × ByteArray) : List Value := [.int .i64 x.1, .string x.2]
theorem SlS.of {w : World} {base : Nat} {v : Value} {L : List (Int × ByteArray)} {n : Nat} (hn : L.length = n) (h : w.ownsRow base 44 2 v n (L.flatMap secC)) : SlS w v L := by
  subst hn
  rcases id h.2 with ⟨hv, h0⟩ | ⟨g, cap, cur, hv, h1, h2, h3, h4, _⟩
  · exact ⟨none, 0, by rw [hv, h0], by omega, Nat.zero_le _, fun i hi => by omega⟩
  · subst hv
    have hc : ∀ i (hi : i < L.length) d, d < 2 → w.cell? ⟨g, 0 + i * 2 + d, none⟩ = (secC L[i])[d]? := fun i hi d hd => by
      rw [Nat.zero_add, h.cellAt (i * 2 + d) (by omega), flat_get 2 secC (fun _ => rfl) L i d hd, List.getElem?_eq_getElem hi]; rfl
    exact ⟨_, cap, rfl, h3, h4, fun i hi => ⟨g, 0, rfl, hc i hi 0 (by omega), hc i hi 1 (by omega)⟩⟩
theorem RS.bods_cons (R : RS) (x : En) (xs : List En) : R.bods (x :: xs) = if Crc.sum (R.take x.2.1).1.data.toList = x.2.2 then ((R.take x.2.1).2.bods xs).map (((x.1 : Int), (R.take x.2.1).1) :: ·) else none := rfl
theorem wrapU (n : Nat) (h : n < 18446744073709551616) : IntKind.u64.wrap (n : Int) = n := by show ((n : Int) % 18446744073709551616) = n; omega
theorem dsum_le : ∀ (es : List En) (n m : Nat), dsum es n = some m → ∀ x ∈ es, x.2.1 ≤ n
  | [], _, _, _, x, hx => by cases hx
  | y :: es, n, m, h, x, hx => by
    unfold dsum at h
    split at h
    · rename_i hy
      rcases List.mem_cons.1 hx with rfl | hx
      · exact hy
      · have := dsum_le es _ _ h x hx; omega
    · cases h
end Go.Proofs.Ytaikcehdomaebaa
