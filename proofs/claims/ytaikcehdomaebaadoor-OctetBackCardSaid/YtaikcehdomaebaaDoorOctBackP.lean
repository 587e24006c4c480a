/- OctetBack, in plain words. -/
import Derived.Test.YtaikcehdomaebaaDoorOctTells
import Derived.Test.YtaikcehdomaebaaDoorOctSame
import Derived.Test.YtaikcehdomaebaaDoorOctWrite
namespace Go.Proofs.YtaikcehdomaebaaDoor
open Go.RowKit
theorem SlT.take {w : World} {a : Option Addr} {n cap : Nat} {L : List It} (h : SlT w (.slice a n cap) L) (m : Nat) (hm : m ≤ n) : ∃ A : List It, A = L.take m ∧ A.length = m ∧ SlT w (.slice a m cap) A := by
  obtain ⟨a', cap', e, h1, h2, h3⟩ := h
  simp only [Value.slice.injEq] at e
  obtain ⟨rfl, rfl, rfl⟩ := e
  have hl : (L.take m).length = m := by simp; omega
  refine ⟨_, rfl, hl, a, cap, by rw [hl], by omega, h2, fun i hi => ?_⟩
  obtain ⟨b, off, rfl, c1, c2, c3⟩ := h3 i (by omega)
  exact ⟨b, off, rfl, by simpa using c1, by simpa using c2, by simpa using c3⟩
/-- the ends -/
def eV (A : List It) (k : Nat) : List Value := (List.range k).map fun i => Value.int .i64 ((allB A (i + 1)).length : Nat)
theorem eV_succ (A : List It) (k : Nat) : eV A (k + 1) = eV A k ++ [.int .i64 ((allB A (k + 1)).length : Nat)] := by
  unfold eV; rw [List.range_succ, List.map_append]; rfl
theorem eV_get (A : List It) (n k : Nat) (hk : k < n) : (eV A n)[k]? = some (.int .i64 ((allB A (k + 1)).length : Nat)) := by
  unfold eV; rw [List.getElem?_map, List.getElem?_range hk]; rfl
theorem allB_split (A : List It) (k : Nat) (hk : k < A.length) : ∃ t, allB A A.length = allB A k ++ (itB A[k] ++ t) := by
  refine ⟨(A.drop (k + 1)).flatMap itB, ?_⟩
  unfold allB
  rw [List.take_length]
  conv => lhs; rw [← List.take_append_drop k A, List.drop_eq_getElem_cons hk]
  rw [List.flatMap_append, List.flatMap_cons]
theorem allB_le (A : List It) (k : Nat) : (allB A k).length ≤ (allB A A.length).length := by
  unfold allB
  rw [List.take_length]
  conv => rhs; rw [← List.take_append_drop k A, List.flatMap_append, List.length_append]
  omega
theorem same_fwd (S : ByteArray) (i : Nat) (x : It) (hx : itOk x) (t : List UInt8) (hr : S.data.toList.drop i = itB x ++ t) (hle : i ≤ S.size) : itG ⟨S, i, none⟩ x ∧ itS ⟨S, i, none⟩ x = ⟨S, i + (itB x).length, none⟩ := by
  obtain ⟨a, n, s⟩ := x
  obtain ⟨_, hn, _⟩ := hx
  simp only at hn
  have hc := mod5 a
  unfold itG itS
  unfold itB at hr ⊢
  simp only at hr ⊢
  rcases hc with h | h | h | h | h
  all_goals rw [h] at hr ⊢; simp only [reduceIte, Nat.reduceEqDiff] at hr ⊢
  · rw [← leb_mod 1 n] at hr
    have e := RS.num_fwd (R := ⟨S, i, none⟩) rfl hr hle (Nat.mod_lt _ (by decide))
    rw [e, leb_length]
    exact ⟨rfl, rfl⟩
  · rw [← leb_mod 4 n] at hr
    have e := RS.num_fwd (R := ⟨S, i, none⟩) rfl hr hle (Nat.mod_lt _ (by decide))
    rw [e, leb_length]
    exact ⟨rfl, rfl⟩
  · have e := RS.num_fwd (R := ⟨S, i, none⟩) rfl hr hle (show n < 18446744073709551616 from hn)
    rw [e, leb_length]
    exact ⟨rfl, rfl⟩
  · have e := RS.num_fwd (R := ⟨S, i, none⟩) rfl hr hle (show n < 18446744073709551616 from hn)
    rw [e, leb_length]
    exact ⟨rfl, rfl⟩
  · have e := RS.take_fwd (R := ⟨S, i, none⟩) rfl hr hle
    have hl : (s.extract 0 (min s.size 40)).data.toList.length = min s.size 40 := by rw [ba_size, ByteArray.size_extract]; omega
    rw [hl] at e ⊢
    rw [e]
    exact ⟨ba_mk _, rfl⟩
theorem same_cut (S : ByteArray) (i : Nat) (x : It) (h : S.size < i + (itB x).length) : itS ⟨S, i, none⟩ x = ⟨S, i, some (3, i)⟩ := by
  obtain ⟨a, n, s⟩ := x
  have hc := mod5 a
  unfold itS
  unfold itB at h
  simp only at h ⊢
  have hT : ∀ k : Nat, S.size < i + k → RS.take ⟨S, i, none⟩ (k : Int) = (⟨#[]⟩, ⟨S, i, some (3, i)⟩) := fun k hk =>
    RS.take_short (R := ⟨S, i, none⟩) rfl (by omega) (by show (S.size : Int) - (i : Int) < k; omega)
  rcases hc with e | e | e | e | e
  all_goals rw [e] at h ⊢; simp only [reduceIte, Nat.reduceEqDiff] at h ⊢
  · rw [leb_length] at h; unfold RS.num; rw [hT 1 h]
  · rw [leb_length] at h; unfold RS.num; rw [hT 4 h]
  · rw [leb_length] at h; unfold RS.num; rw [hT 8 h]
  · rw [leb_length] at h; unfold RS.num; rw [hT 8 h]
  · have hl : (s.extract 0 (min s.size 40)).data.toList.length = min s.size 40 := by rw [ba_size, ByteArray.size_extract]; omega
    rw [hl] at h
    rw [hT _ h]
section
variable {A : List It} {k m : Nat} {P : ByteArray}
theorem back_fwd (hok : ∀ x ∈ A, itOk x) (hk : k < A.length) (hP : P.data.toList = (allB A A.length).take m) (hm : (allB A (k + 1)).length ≤ m) : itG ⟨P, (allB A k).length, none⟩ A[k] ∧ itS ⟨P, (allB A k).length, none⟩ A[k] = ⟨P, (allB A (k + 1)).length, none⟩ := by
  obtain ⟨t, ht⟩ := allB_split A k hk
  have hs := allB_succ A k hk
  have hl := congrArg List.length hs
  rw [List.length_append] at hl
  rw [hl] at hm ⊢
  have hd : P.data.toList.drop (allB A k).length = itB A[k] ++ t.take (m - (allB A k).length - (itB A[k]).length) := by
    rw [hP, ht, List.take_append, List.take_of_length_le (by omega), List.drop_left, List.take_append, List.take_of_length_le (by omega)]
  refine same_fwd P _ _ (hok _ (List.getElem_mem hk)) _ hd ?_
  rw [← ba_size, hP, List.length_take]
  have := allB_le A k
  omega
theorem back_size (hP : P.data.toList = (allB A A.length).take m) (hm : m ≤ (allB A A.length).length) : P.size = m := by
  rw [← ba_size, hP, List.length_take]; omega
theorem back_cut (hk : k < A.length) (hP : P.data.toList = (allB A A.length).take m) (hmt : m ≤ (allB A A.length).length) (hm : m < (allB A (k + 1)).length) : itS ⟨P, (allB A k).length, none⟩ A[k] = ⟨P, (allB A k).length, some (3, (allB A k).length)⟩ := by
  have hl := congrArg List.length (allB_succ A k hk)
  rw [List.length_append] at hl
  have hz := back_size hP hmt
  exact same_cut P _ _ (by omega)
end
/-- a writer that another row's growth leaves -/
theorem WS.grown {w0 w w' : World} {p : Nat} {l : List UInt8} {v : Value} {n : Nat} {xs : List Value} (h : WS w0 w p l) (ho : w.ownsRow w0.heap.size 3 1 v n xs) (hg : w.grownBy w' v.ownBlock) : WS w0 w' p l := by
  have hT : ∀ b, v.ownBlock = some b → w0.heap.size ≤ b ∧ ∃ cur, Blk w b cur 3 (0, 0) := fun b hb => ownsRow_blk ho hb
  have hk : Kept (fun b => v.ownBlock = some b) w w' := ⟨hg.os, hg.tape, hg.output, hg.size, fun k hk hn => hg.block k hk (fun e => hn e.symm)⟩
  obtain ⟨F, ⟨⟨u, hb, ho', hv⟩, hm, hl⟩, h2, h3⟩ := h
  have hp : ¬ v.ownBlock = some p := fun e => by
    obtain ⟨_, cur, hb2⟩ := hT p e
    have e2 := Option.some.inj (Eq.trans (Eq.symm hb) hb2)
    cases e2
  refine ⟨fun b => b = p ∨ u.ownBlock = some b, ⟨⟨u, hk.blk hb hp, ownsRow_agree ho' (fun g hg' => ?_), fun b hb => .inr hb⟩, .inl rfl, fun b hb' => ?_⟩, fun b hb' => ?_, h3.trans (hk.below h3.size (fun b hb => (hT b hb).1))⟩
  · obtain ⟨_, cur, hbg⟩ := ownsRow_blk ho' hg'
    refine hk.block g hbg.lt (fun e => ?_)
    obtain ⟨_, cur2, hb2⟩ := hT g e
    have e2 := Option.some.inj (Eq.trans (Eq.symm hbg) hb2)
    cases e2
  · rcases hb' with rfl | hb'
    · exact Nat.lt_of_lt_of_le hb.lt hk.size
    · exact Nat.lt_of_lt_of_le (hl b (hv b hb')) hk.size
  · rcases hb' with rfl | hb'
    · exact h2 _ hm
    · exact h2 b (hv b hb')
/-- a writer of our own, and a row of ends -/
structure B1 (w0 w : World) (p : Nat) (l : List UInt8) (v : Value) (n : Nat) (xs : List Value) : Prop where
  ws : WS w0 w p l
  en : w.ownsRow w0.heap.size 3 1 v n xs
section
variable {w0 w w' : World} {p n n' : Nat} {l l' : List UInt8} {v v' : Value} {xs xs' : List Value}
theorem B1.later (h : B1 w0 w p l v n xs) (hb : Below w.heap.size w w') : B1 w0 w' p l v n xs := ⟨h.ws.later hb, ownsRow_later h.en hb⟩
theorem B1.wrote (h : B1 w0 w p l v n xs) (hw : WS w0 w' p l') (hk : KpW w w') : B1 w0 w' p l' v n xs := ⟨hw, ownsRow_agree h.en fun g hg => by
  obtain ⟨_, cur, hb⟩ := ownsRow_blk h.en hg
  exact Eq.trans (hk _ _ _ _ hb (by decide) (by decide)) (Eq.symm hb)⟩
theorem B1.app (h : B1 w0 w p l v n xs) (ho : w'.ownsRow w0.heap.size 3 1 v' n' xs') (hg : w.grownBy w' v.ownBlock) : B1 w0 w' p l v' n' xs' := ⟨h.ws.grown h.en hg, ho⟩
end
theorem infoInt : (Tryd.prog.info? 3).map (fun i => (i.zero, i.size, i.bytes)) = some (some (.int .i64 0), 1, 8) := by kernel_rfl
theorem row_form {w : World} {B : Nat} {e : TypeId} {s : Nat} {v : Value} {n : Nat} {xs : List Value} (h : w.ownsRow B e s v n xs) : ∃ a cap, v = .slice a n cap ∧ n ≤ cap ∧ cap ≤ maxLen ∧ ∀ j u, xs[j]? = some u → ∃ g, a = some ⟨g, 0, none⟩ ∧ B ≤ g ∧ w.cell? ⟨g, j, none⟩ = some u ∧ w.frozen? ⟨g, j, none⟩ = false := by
  rcases id h.2 with ⟨rfl, rfl⟩ | ⟨g, cap, cur, rfl, h1, h2, h3, h4, h5, h6⟩
  · refine ⟨none, 0, rfl, Nat.le_refl _, Nat.zero_le _, fun j u hj => ?_⟩
    have := h.1
    rw [Nat.zero_mul] at this
    rw [List.eq_nil_of_length_eq_zero this] at hj
    cases hj
  · refine ⟨_, cap, rfl, h3, h4, fun j u hj => ⟨g, rfl, h1, ?_, ?_⟩⟩
    · have hb : Blk w g cur e (0, 0) := h2
      rw [hb.cell]
      rw [← h6, List.getElem?_take] at hj
      split at hj
      · simpa using hj
      · cases hj
    · have hb : Blk w g cur e (0, 0) := h2
      exact hb.free _ (Or.inr (Nat.zero_le _))
theorem row_cell {w : World} {B : Nat} {e : TypeId} {sz : Nat} {a : Option Addr} {n cap : Nat} {xs : List Value} (h : w.ownsRow B e sz (.slice a n cap) n xs) (j : Nat) (u : Value) (hj : xs[j]? = some u) : ∃ g, a = some ⟨g, 0, none⟩ ∧ B ≤ g ∧ w.cell? ⟨g, j, none⟩ = some u ∧ w.frozen? ⟨g, j, none⟩ = false := by
  obtain ⟨a', cap', e, _, _, h2⟩ := row_form h
  have e1 := (Value.slice.inj e).1
  rw [e1]
  exact h2 j u hj
end Go.Proofs.YtaikcehdomaebaaDoor
