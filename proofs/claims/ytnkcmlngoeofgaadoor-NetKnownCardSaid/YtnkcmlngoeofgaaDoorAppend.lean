/-
  append ONTO A SLICE THAT IS OURS, OF WHATEVER SOURCE (a slice, a string): one law; and as a step of a region, drawn or not.
-/
import Derived.Test.YtnkcmlngoeofgaaDoorOwn
import Derived.Deep.AppendSrc
import Derived.Maps.AppendAt
import Derived.RegionTactic
namespace Go.Proofs.YtnkcmlngoeofgaaDoor
open Go.RowKit
/-- the cells from o on written over -/
def putAt (cs : Array Value) (o : Nat) : List Value → Array Value
  | [] => cs
  | v :: vs => putAt (cs.setIfInBounds o v) (o + 1) vs
theorem putAt_size (vs : List Value) : ∀ (cs : Array Value) (o : Nat), (putAt cs o vs).size = cs.size := by
  induction vs with
  | nil => intro cs o; rfl
  | cons v vs ih => intro cs o; show (putAt _ _ vs).size = _; rw [ih]; simp
theorem putAt_get (vs : List Value) : ∀ (cs : Array Value) (o j : Nat), o + vs.length ≤ cs.size → (putAt cs o vs)[j]? = if o ≤ j ∧ j < o + vs.length then vs[j - o]? else cs[j]? := by
  induction vs with
  | nil => intro cs o j _; rw [if_neg (by simp <;> omega)]; first | done | rfl
  | cons v vs ih =>
    intro cs o j h
    simp only [List.length_cons] at h
    show (putAt _ _ vs)[j]? = _
    rw [ih _ _ _ (by simp; omega)]
    simp only [List.length_cons]
    by_cases h1 : o + 1 ≤ j ∧ j < o + 1 + vs.length
    · rw [if_pos h1, if_pos (by omega)]
      obtain ⟨d, rfl⟩ : ∃ d, j = o + 1 + d := ⟨j - (o + 1), by omega⟩
      rw [show o + 1 + d - (o + 1) = d by omega, show o + 1 + d - o = d + 1 by omega]; rfl
    · rw [if_neg h1]
      by_cases h2 : j = o
      · subst h2
        rw [if_pos (by omega), Nat.sub_self]
        simp [show j < cs.size by omega]
      · rw [if_neg (by omega), Array.getElem?_setIfInBounds_ne (Ne.symm h2)]
theorem setCells_blk (t : TypeId) (fr : Nat × Nat) (b : Nat) (vs : List Value) : ∀ (w : World) (o : Nat) (cs : Array Value), Blk w b cs t fr → Blk (w.setCells b o vs) b (putAt cs o vs) t fr := by
  induction vs with
  | nil => intro w o cs h; exact h
  | cons v vs ih => intro w o cs h; exact ih _ _ _ (h.set o v)
theorem setCells_grown (b : Nat) (vs : List Value) : ∀ (w : World) (o : Nat), w.grownBy (w.setCells b o vs) (some b) := by
  induction vs with
  | nil => intro w o; exact ⟨rfl, rfl, rfl, Nat.le_refl _, fun _ _ _ => rfl⟩
  | cons v vs ih =>
    intro w o
    have h := ih (w.setCell ⟨b, o, none⟩ v) (o + 1)
    have hs : (w.setCell ⟨b, o, none⟩ v).heap.size = w.heap.size := by simp [World.setCell]
    exact ⟨h.os, h.tape, h.output, by rw [← hs]; exact h.size, fun k hk hne => (h.block k (by rw [hs]; exact hk) hne).trans (heap_setCell_other _ _ _ _ (fun e => hne (by rw [e])))⟩
theorem firstCells_own {P : Program} {w : World} {base : Nat} {e : TypeId} {v : Value} {n : Nat} {xs : List Value} (h : w.ownsRow base e 1 v n xs) {a : Option Addr} {cap : Nat} (hv : v = .slice a n cap) :
    (Builtin.firstCells 1 n v).run P w.drew = .ok xs.toArray w.drew := by
  subst hv
  have hx : xs.length = n * 1 := h.1
  cases a with
  | none =>
    rcases h.2 with ⟨_, h0⟩ | ⟨g, c, cur, e2, _⟩
    · subst h0
      have : xs = [] := List.eq_nil_of_length_eq_zero (by simpa using hx)
      subst this
      exact run_firstCells_none w.drew 1 0 0 cap
    · cases e2
  | some a =>
    rcases h.2 with ⟨e2, _⟩ | ⟨g, c, cur, e2, _⟩
    · cases e2
    · obtain rfl : a = ⟨g, 0, none⟩ := by simpa using (Value.slice.inj e2).1
      exact run_firstCells_some w.drew 1 n _ n cap xs hx (by simpa using h.cells (g := g) rfl)
/-- THE LAW -/
theorem run_append_src {P : Program} {w : World} (base : Nat) (t tx ty e : TypeId) (i : TypeInfo) (z : Value) (bytes : Nat) (ht : P.underlying t = some (.slice e)) (hi : P.info? e = some i) (hz : i.zero = some z)
    (hsize : i.size = 1) (hby : i.bytes = bytes) (hzs : z.cells.size = 1) (v : Value) (n : Nat) (xs : List Value) (hown : w.ownsRow base e 1 v n xs)
    (x : Value) (m : Nat) (news : List Value) (hs : Src P 1 tx x m news w) (h63 : n + m ≤ maxLen) (hbytes : (n + m) * bytes ≤ 140737488355328) (hbase : base ≤ w.heap.size) :
    ∃ v' w', (Builtin.append_ #[t, tx] ty #[v, x]).run P w = .ok v' w' ∧ w'.ownsRow base e 1 v' (n + m) (xs ++ news) ∧ w.grownBy w' v.ownBlock ∧ (v'.ownBlock = v.ownBlock ∨ v'.ownBlock = some w.heap.size) := by
  subst hby
  have hsmall : n + m ≤ 9223372036854775807 := by simp only [maxLen] at h63; omega
  have hnl : news.length = m := by have := hs.newsLen; omega
  have hxl : xs.length = n := by have := hown.1; omega
  have hs' : Src P i.size tx x m news w := by rw [hsize]; exact hs
  have hlen : (xs ++ news).length = (n + m) * 1 := by rw [List.length_append, hxl, hnl, Nat.mul_one]
  have grown : ∀ (a : Option Addr) (old : Nat), v = .slice a n old → old < n + m →
      ∃ v' w', (Builtin.append_ #[t, tx] ty #[v, x]).run P w = .ok v' w' ∧ w'.ownsRow base e 1 v' (n + m) (xs ++ news) ∧ w.grownBy w' v.ownBlock ∧ (v'.ownBlock = v.ownBlock ∨ v'.ownBlock = some w.heap.size) := by
    intro a old hv ho
    have hge := grownCap_ge w (n + m) old e
    have hcm : grownCap w (n + m) old e ≤ maxLen := grownCap_le_maxLen w (n + m) old e h63
    have hold := firstCells_own (P := P) hown hv
    have hr := run_append_grow_src (P := P) w t tx ty e i z ht hi hz a n old xs (by rw [hsize, ← hv]; exact hold) x m news hs' ho (by omega) (growslice_fits (by omega) hbytes)
    rw [← hv] at hr
    refine ⟨_, _, hr, ⟨hlen, .inr ⟨w.heap.size, _, _, rfl, hbase, heap_alloc_new w.drew _, hge, hcm, ?_, ?_⟩⟩, ⟨rfl, rfl, rfl, by simp, fun k hk _ => Below.heap_alloc w.drew _ k hk⟩, .inr rfl⟩
    · simp only [Array.size_append, List.size_toArray, size_zeroCells, hzs, Nat.mul_one, List.length_append, hxl, hnl]; omega
    · simp only [Array.toList_append]
      rw [show (n + m) * 1 = (xs ++ news).length from hlen.symm]
      exact List.take_left
  have hown' := hown
  rcases hown'.2 with ⟨hv, hn⟩ | ⟨g, cap, cur, hv, hbg, hg, hnc, hcm, hcs, htake⟩
  · by_cases hm : m = 0
    · subst hn hm
      have hn0 : news = [] := List.eq_nil_of_length_eq_zero hnl
      have hx0 : xs = [] := List.eq_nil_of_length_eq_zero hxl
      subst hn0 hx0 hv
      refine ⟨.slice none 0 0, w, ?_, World.ownsRow_nil w base e 1, ⟨rfl, rfl, rfl, Nat.le_refl _, fun _ _ _ => rfl⟩, .inl rfl⟩
      rcases hs.kind with ⟨e', hk⟩ | hk <;> simp [Builtin.append_, run_underlying ht, run_underlying hk, sizeOf, typeInfo, hi, hsize, hs.len, hs.cells]
    · exact grown none 0 (by rw [hv, hn]) (by omega)
  · by_cases hroom : n + m ≤ cap
    · subst hv
      rw [Nat.mul_one] at hcs htake
      have hb : Blk w g cur e (0, 0) := hg
      have hr := run_append_room_src (P := P) w t tx ty e i ht hi g 0 n cap x m news hs' hroom
        (fun j hj => by rw [hsize, Nat.mul_one, Nat.zero_add, hb.cell]; rw [Array.getElem?_eq_getElem (by omega)]; rfl)
        (fun j _ => by exact hb.free _ (Or.inr (Nat.zero_le _)))
      rw [hsize, Nat.mul_one, Nat.zero_add] at hr
      have hb' := setCells_blk e (0, 0) g news w n cur hb
      refine ⟨_, _, hr, ⟨hlen, .inr ⟨g, cap, _, rfl, hbg, hb', hroom, hcm, by rw [putAt_size, hcs, Nat.mul_one], ?_⟩⟩, setCells_grown g news w n, .inl rfl⟩
      rw [Nat.mul_one]
      apply List.ext_getElem?
      intro j
      rw [List.getElem?_take]
      rw [show (putAt cur n news).toList[j]? = (putAt cur n news)[j]? by simp]
      rw [putAt_get news cur n j (by omega)]
      rw [hnl]
      by_cases hj : j < n + m
      · rw [if_pos hj]
        by_cases h1 : n ≤ j
        · rw [if_pos ⟨h1, hj⟩, List.getElem?_append_right (by omega), hxl]
        · rw [if_neg (by omega), List.getElem?_append_left (by omega), ← htake, List.getElem?_take, if_pos (by omega)]; simp
      · rw [if_neg hj]
        exact (List.getElem?_eq_none (by rw [List.length_append, hxl, hnl]; omega)).symm
    · exact grown _ cap hv (by omega)
/-- at a plain region's list -/
theorem wpList_append_src {P : Program} {w : World} {ops : Array Oper} {rest : List Oper} {o : Oper} {a : Act} {Q : Exit → Act → World → Prop} (hgd : o.guard = none) (s x : Operand) (t tx : TypeId)
    (ho : o.op = .call { callee := .builtin .append, args := #[s, x], argTypes := #[t, tx] }) {v' : Value} {w' : World} (hrun : (Builtin.append_ #[t, tx] o.type #[a.eval s, a.eval x]).run P w = .ok v' w')
    (h : wpList P ops Q rest (a.put o.dst v') w') : wpList P ops Q (o :: rest) a w := wpList_append_run hgd s x t tx ho hrun h
/-- at a step of a region that draws -/
theorem step_append_run {P : Program} {w : World} {ops : Array Oper} {o : Oper} {a : Act} {K : Act → World → Prop} {Q : Exit → Act → World → Prop} {E : Prop} (hgd : o.guard = none) (s x : Operand) (t tx : TypeId)
    (ho : o.op = .call { callee := .builtin .append, args := #[s, x], argTypes := #[t, tx] }) {v' : Value} {w' : World} (hrun : (Builtin.append_ #[t, tx] o.type #[a.eval s, a.eval x]).run P w = .ok v' w')
    (h : K (a.put o.dst v') w') : if Region.wanted o (yielded ops a.tmps) = true then Oper.wp P o a w K Q else E := by
  have hw : Region.wanted o (yielded ops a.tmps) = true := by simp [Region.wanted, hgd]
  rw [if_pos hw]
  unfold Oper.wp execOp
  simp only [ho, resolve, invoke, builtin, Sem.run_bind, Sem.run_pure, Result.andThen_ok, List.map_toArray, List.map_cons, List.map_nil, hrun]
  exact h
end Go.Proofs.YtnkcmlngoeofgaaDoor
