/- graph.look: the walk. -/
import Derived.Test.YtnkcmlngoeofgaaDoorGrMarks
import Derived.Test.YtnkcmlngoeofgaaDoorGrPhase
import Derived.WalkLawsBesides
namespace Go.Proofs.YtnkcmlngoeofgaaDoor
open Go.RowKit Go.Shelf
attribute [local go_sem] Oper.semAt_some FK_round FK_depth Oper.semAt_none
/-- what look panics with: the trouble around the fault at b -/
def looked (b : Nat) : List PanicEntry := [{ v := .iface 82 (.agg #[.pointer (some ⟨b, 0, none⟩)]), recovered := false }]
/-- the five phases -/
def phases (nodes : Int) (X Y : List Int) (ars : List Ar) : List (List Pl) :=
  [[⟨0, 0, 5, nodes, 1, 16777217⟩], [⟨0, 0, 6, X.length, nodes, nodes + 1⟩, ⟨0, 1, 6, Y.length, nodes, nodes + 1⟩], nodesP X Y X.length, [⟨0, 0, 8, ars.length, 0, 67108865⟩], arcsP nodes ars ars.length]
theorem lookV_cons {ps : List Pl} {L : List (List Pl)} {j : Nat} (h : ps.find? Pl.bad = none) : lookV (ps :: L) j = lookV L (j + 1) := by
  rw [lookV]; simp only [h]
theorem lookV_drop : ∀ (L : List (List Pl)) (k j : Nat), (∀ p ∈ (L.take k).flatten, p.bad = false) → k ≤ L.length → lookV L j = lookV (L.drop k) (j + k)
  | _, 0, _, _, _ => rfl
  | [], k + 1, _, _, h => by cases h
  | ps :: L, k + 1, j, hb, h => by
    rw [lookV_cons (find_none fun p hp => hb p (by simp [hp])), lookV_drop L k (j + 1) (fun p hp => hb p (by simp only [List.take_succ_cons, List.flatten_cons, List.mem_append]; exact .inr hp)) (by simpa using h), show j + 1 + k = j + (k + 1) by omega]
    rfl
def tells : List Nat := [63, 65, 67, 69, 70]
theorem bad_out {p : Pl} (h : p.bad = false) : p.lo ≤ p.n ∧ p.n < p.hi := by
  unfold Pl.bad at h
  simp only [Bool.or_eq_false_iff, decide_eq_false_iff_not] at h
  omega
theorem tell_in (k : Nat) (hk : k < 5) (m Br : Nat) (nodes : Int) (X Y : List Int) (ars : List Ar) (W : World) (h : RawAt W Br nodes X Y ars) (hpre : ∀ p ∈ ((phases nodes X Y ars).take k).flatten, p.bad = false) :
    CallsIn FK m Tryd.prog (tells.getD k 0) #[.pointer (some ⟨Br, 0, none⟩)] W fun e W' => ∃ gf lb, e = .returned (.func (.func gf) #[] lb) ∧ ItOf W' gf lb ((phases nodes X Y ars).getD k []) ∧ Below W.heap.size W W' := by
  have hn : 1 ≤ k → 1 ≤ nodes ∧ nodes ≤ 16777216 := fun h1 => by
    have := bad_out (hpre ⟨0, 0, 5, nodes, 1, 16777217⟩ (by
      obtain ⟨k', rfl⟩ : ∃ k', k = k' + 1 := ⟨k - 1, by omega⟩
      simp [phases]))
    dsimp only at this
    omega
  have hl : 2 ≤ k → X.length = Y.length := fun h1 => by
    obtain ⟨k', rfl⟩ : ∃ k', k = k' + 1 + 1 := ⟨k - 2, by omega⟩
    have e1 := bad_out (hpre ⟨0, 0, 6, X.length, nodes, nodes + 1⟩ (by simp [phases]))
    have e2 := bad_out (hpre ⟨0, 1, 6, Y.length, nodes, nodes + 1⟩ (by simp [phases]))
    dsimp only at e1 e2
    omega
  match k, hk with
  | 0, _ => exact look1_in m Br nodes X Y ars W h
  | 1, _ => exact look2_in m Br nodes X Y ars W h (hn (by omega))
  | 2, _ => exact look3_in m Br nodes X Y ars W h (hl (by omega))
  | 3, _ => exact look4_in m Br nodes X Y ars W h
  | 4, _ => exact look5_in m Br nodes X Y ars W h
theorem FK_ex (fn : Nat) (h : FK.fn fn) : ∃ f, Tryd.prog.funcs[fn]? = some f := by
  simp only [FK, Fence.list, List.mem_cons, List.not_mem_nil, or_false] at h
  rcases h with rfl | rfl | rfl | rfl | rfl | rfl | rfl | rfl | rfl | rfl | rfl | rfl | rfl | rfl
  · exact ⟨_, Tryd.func46⟩
  · exact ⟨_, Tryd.func63⟩
  · exact ⟨_, Tryd.func64⟩
  · exact ⟨_, Tryd.func65⟩
  · exact ⟨_, Tryd.func66⟩
  · exact ⟨_, Tryd.func67⟩
  · exact ⟨_, Tryd.func68⟩
  · exact ⟨_, Tryd.func69⟩
  · exact ⟨_, Tryd.func70⟩
  · exact ⟨_, Tryd.func71⟩
  · exact ⟨_, Tryd.func83⟩
  · exact ⟨_, Tryd.func84⟩
  · exact ⟨_, Tryd.func85⟩
  · exact ⟨_, Tryd.func89⟩
theorem ItOf.fn {w : World} {gf : Nat} {lb : Array Value} {ps : List Pl} (h : ItOf w gf lb ps) : FK.fn gf ∧ ∀ args w, (callFunc gf args).run Tryd.prog w = .ok (.enter gf args) w := by
  rcases h with ⟨rfl, _⟩ | ⟨rfl, _⟩ | ⟨rfl, _⟩
  · exact ⟨by simp [FK, Fence.list], enters_of Tryd.func89 (by kernel_rfl) rfl⟩
  · exact ⟨by simp [FK, Fence.list], enters_of Tryd.func84 (by kernel_rfl) rfl⟩
  · exact ⟨by simp [FK, Fence.list], enters_of Tryd.func85 (by kernel_rfl) rfl⟩
theorem tells_fn (k : Nat) (hk : k < 5) : FK.fn (tells.getD k 0) ∧ ∀ args w, (callFunc (tells.getD k 0) args).run Tryd.prog w = .ok (.enter (tells.getD k 0) args) w := by
  match k, hk with
  | 0, _ => exact ⟨by simp [FK, Fence.list, tells], enters_of Tryd.func63 (by kernel_rfl) rfl⟩
  | 1, _ => exact ⟨by simp [FK, Fence.list, tells], enters_of Tryd.func65 (by kernel_rfl) rfl⟩
  | 2, _ => exact ⟨by simp [FK, Fence.list, tells], enters_of Tryd.func67 (by kernel_rfl) rfl⟩
  | 3, _ => exact ⟨by simp [FK, Fence.list, tells], enters_of Tryd.func69 (by kernel_rfl) rfl⟩
  | 4, _ => exact ⟨by simp [FK, Fence.list, tells], enters_of Tryd.func70 (by kernel_rfl) rfl⟩
/-- behind k phases -/
structure LookI (W : World) (Br Bc : Nat) (nodes : Int) (X Y : List Int) (ars : List Ar) (k : Nat) (w : World) : Prop where
  below : Below W.heap.size W w
  raw : RawAt w Br nodes X Y ars
  tell : Blk w Bc (tells.map fun f => Value.func (.func f) #[] #[.pointer (some ⟨Br, 0, none⟩)]).toArray 109 (0, 0)
  good : ∀ p ∈ ((phases nodes X Y ars).take k).flatten, p.bad = false
theorem LookI.cell {W : World} {Br Bc : Nat} {nodes : Int} {X Y : List Int} {ars : List Ar} {k : Nat} {w : World} (h : LookI W Br Bc nodes X Y ars k w) (hk : k < 5) : w.cell? ⟨Bc, k, none⟩ = some (.func (.func (tells.getD k 0)) #[] #[.pointer (some ⟨Br, 0, none⟩)]) := by
  rw [h.tell.cell]
  match k, hk with
  | 0, _ => rfl
  | 1, _ => rfl
  | 2, _ => rfl
  | 3, _ => rfl
  | 4, _ => rfl
theorem LookI.to {W : World} {Br Bc : Nat} {nodes : Int} {X Y : List Int} {ars : List Ar} {k : Nat} {w w' : World} (h : LookI W Br Bc nodes X Y ars k w) (hb : Below w.heap.size w w') : LookI W Br Bc nodes X Y ars k w' :=
  ⟨h.below.next' hb |> fun x => x, h.raw.keep (KpC.of_below hb), h.tell.below hb h.tell.lt, h.good⟩
/-- how a phase's round panics -/
def PhT (k : Nat) (w : World) (ch : List PanicEntry) (xs : List Pl) (W : World) : Prop :=
  ∃ pre x b, xs = pre ++ [x] ∧ (∀ p ∈ pre, p.bad = false) ∧ x.bad = true ∧ ch = looked b ∧ Blk W b #[.int .i64 x.co, .int .i64 (k : Nat), .int .i64 x.ix, .int .i64 x.fl] 47 (0, 0) ∧ Below w.heap.size w W
/-- ahead of a round's body -/
def AheadG (tm : Array Value) (w2 : World) (pre : List Pl) (x : Pl) (a1 : Act) (A : World) : Prop :=
  ∃ b, a1 = { tmps := (tm.setIfInBounds 19 (.agg #[.int .i64 x.ix, .int .i64 x.fl, .int .i64 x.co, .int .i64 x.n, .int .i64 x.lo, .int .i64 x.hi])).setIfInBounds 4 (.pointer (some ⟨b, 0, none⟩)), defers := [] } ∧
    Blk A b #[.int .i64 x.ix, .int .i64 x.fl, .int .i64 x.co, .int .i64 x.n, .int .i64 x.lo, .int .i64 x.hi] 113 (0, 0) ∧ Below w2.heap.size w2 A ∧ ∀ p ∈ pre, p.bad = false
theorem phases_cut {nodes : Int} {X Y : List Int} {ars : List Ar} {k : Nat} (hk : k < 5) : (phases nodes X Y ars).drop k = (phases nodes X Y ars).getD k [] :: (phases nodes X Y ars).drop (k + 1) := by
  have hl : k < (phases nodes X Y ars).length := hk
  rw [List.drop_eq_getElem_cons hl, List.getD_eq_getElem?_getD, List.getElem?_eq_getElem hl]; rfl
theorem phases_good {nodes : Int} {X Y : List Int} {ars : List Ar} {k : Nat} (hk : k < 5) (h : ∀ p ∈ ((phases nodes X Y ars).take k).flatten, p.bad = false) (h2 : ∀ p ∈ (phases nodes X Y ars).getD k [], p.bad = false) :
    ∀ p ∈ ((phases nodes X Y ars).take (k + 1)).flatten, p.bad = false := by
  have hl : k < (phases nodes X Y ars).length := hk
  intro p hp
  rw [List.take_succ_eq_append_getElem hl, List.flatten_append, List.mem_append] at hp
  rcases hp with hp | hp
  · exact h p hp
  · refine h2 p ?_
    rw [List.getD_eq_getElem?_getD, List.getElem?_eq_getElem hl]
    simpa using hp
theorem lookV_hit {nodes : Int} {X Y : List Int} {ars : List Ar} {k : Nat} (hk : k < 5) (h : ∀ p ∈ ((phases nodes X Y ars).take k).flatten, p.bad = false) {x : Pl} (h2 : ((phases nodes X Y ars).getD k []).find? Pl.bad = some x) :
    lookV (phases nodes X Y ars) 0 = some (k, x) := by
  rw [lookV_drop _ k 0 h (Nat.le_of_lt hk), phases_cut hk, lookV, h2, Nat.zero_add]
set_option maxRecDepth 100000 in
set_option maxHeartbeats 4000000 in
theorem look_in (m : Nat) (hm : 1 ≤ m) (vx vy va : Value) (nodes : Int) (X Y : List Int) (ars : List Ar) (W : World) (hx : SlX W vx X) (hy : SlX W vy Y) (ha : SlA W va ars) :
    CallsIn FK m Tryd.prog 46 #[.agg #[.int .i64 nodes, vx, vy, va]] W fun e W' =>
      ((e = .returned (.tuple #[]) ∧ lookV (phases nodes X Y ars) 0 = none) ∨ (∃ b k p, e = .panicked (looked b) ∧ lookV (phases nodes X Y ars) 0 = some (k, p) ∧ Blk W' b #[.int .i64 p.co, .int .i64 (k : Nat), .int .i64 p.ix, .int .i64 p.fl] 47 (0, 0))) ∧ Below W.heap.size W W' := by
  have hmf : ∀ (fn : Fn) (first cap : Array Value) (w : World), (Instr.makeFunc fn first cap).run Tryd.prog w = .ok (.func fn first cap) w := fun _ _ _ _ => rfl
  obtain ⟨Br, hBr⟩ : ∃ b, b = W.heap.size := ⟨_, rfl⟩
  obtain ⟨Bc, hBc⟩ : ∃ b, b = W.heap.size + 1 := ⟨_, rfl⟩
  have hb1 := (Below.refl W.heap.size W).alloc (Nat.le_refl _) (.cells #[.int .i64 nodes, vx, vy, va] 25)
  have hb2 := hb1.alloc (by simp) (.cells #[.func (.func 63) #[] #[.pointer (some ⟨Br, 0, none⟩)], .func (.func 65) #[] #[.pointer (some ⟨Br, 0, none⟩)], .func (.func 67) #[] #[.pointer (some ⟨Br, 0, none⟩)], .func (.func 69) #[] #[.pointer (some ⟨Br, 0, none⟩)], .func (.func 70) #[] #[.pointer (some ⟨Br, 0, none⟩)]] 109)
  have hr : RawAt (W.alloc (.cells #[.int .i64 nodes, vx, vy, va] 25)) Br nodes X Y ars := by rw [hBr]; exact ⟨vx, vy, va, Blk.new _ _ _ _, hx.keep (KpC.of_below hb1), hy.keep (KpC.of_below hb1), ha.keep (KpC.of_below hb1)⟩
  have hI0 : LookI W Br Bc nodes X Y ars 0 ((W.alloc (.cells #[.int .i64 nodes, vx, vy, va] 25)).alloc (.cells #[.func (.func 63) #[] #[.pointer (some ⟨Br, 0, none⟩)], .func (.func 65) #[] #[.pointer (some ⟨Br, 0, none⟩)], .func (.func 67) #[] #[.pointer (some ⟨Br, 0, none⟩)], .func (.func 69) #[] #[.pointer (some ⟨Br, 0, none⟩)], .func (.func 70) #[] #[.pointer (some ⟨Br, 0, none⟩)]] 109)) := by
    refine ⟨hb2, hr.keep (KpC.of_below ((Below.refl _ _).alloc (Nat.le_refl _) _)), ?_, fun p hp => by simp at hp⟩
    rw [hBc]
    have h := Blk.new (W.alloc (.cells #[.int .i64 nodes, vx, vy, va] 25)) #[.func (.func 63) #[] #[.pointer (some ⟨Br, 0, none⟩)], .func (.func 65) #[] #[.pointer (some ⟨Br, 0, none⟩)], .func (.func 67) #[] #[.pointer (some ⟨Br, 0, none⟩)], .func (.func 69) #[] #[.pointer (some ⟨Br, 0, none⟩)], .func (.func 70) #[] #[.pointer (some ⟨Br, 0, none⟩)]] 109 (0, 0)
    rw [World.size_alloc] at h
    exact h
  have HI0 := Lib.hid hI0
  obtain ⟨ax, cx, rfl, _⟩ := hx
  obtain ⟨ay, cy, rfl, _⟩ := hy
  obtain ⟨aa, ca, rfl, _⟩ := ha
  clear hb1 hb2 hr hI0
  refine callsIn_of_wp_marks Tryd.func46 rfl (by simp [FK, Fence.list]) ?_ rfl
  simp only [Tryd.ntmps46, List.size_toArray, List.length_cons, List.length_nil, Nat.reduceAdd, Nat.reduceSub, Array.replicate_succ, Array.replicate_zero, List.push_toArray, List.append_toArray, List.nil_append, List.cons_append]
  gi_wp2_with fail
  rw [← hBc, ← hBr]
  obtain ⟨vx, hvx⟩ : ∃ v, v = Value.slice ax X.length cx := ⟨_, rfl⟩
  obtain ⟨vy, hvy⟩ : ∃ v, v = Value.slice ay Y.length cy := ⟨_, rfl⟩
  obtain ⟨va, hva⟩ : ∃ v, v = Value.slice aa ars.length ca := ⟨_, rfl⟩
  rw [← hvx, ← hvy, ← hva] at HI0 ⊢
  refine wpIn_loop (fun a w => ∃ (k : Nat) (u2 u3 u4 u12 u13 u14 u15 u16 u17 u18 u19 u20 u21 u22 u23 u24 u25 u26 u27 u28 u29 u30 u31 u32 u33 u34 u35 u36 u37 u38 u39 u40 u41 u42 u43 : Value) (ds : List Deferred), a = { tmps := #[.agg #[.int .i64 nodes, vx, vy, va], .pointer (some ⟨Br, 0, none⟩), u2, u3, u4, .func (.func 63) #[] #[.pointer (some ⟨Br, 0, none⟩)], .func (.func 65) #[] #[.pointer (some ⟨Br, 0, none⟩)], .func (.func 67) #[] #[.pointer (some ⟨Br, 0, none⟩)], .func (.func 69) #[] #[.pointer (some ⟨Br, 0, none⟩)], .func (.func 70) #[] #[.pointer (some ⟨Br, 0, none⟩)], .slice (some ⟨Bc, 0, none⟩) 5 5, .int .i64 5, u12, u13, u14, u15, u16, u17, u18, u19, u20, u21, u22, u23, u24, u25, u26, u27, u28, u29, u30, u31, u32, u33, u34, u35, u36, u37, u38, u39, u40, u41, u42, u43], defers := ds } ∧ u12 = .int .i64 (k : Nat) ∧ k ≤ 5 ∧ MarksAt W.heap.size w ds ∧ LookI W Br Bc nodes X Y ars k w) (fun a _ => 5 - (intOf (a.tmps.getD 12 undef)).toNat) ?_ ?_
  · exact ⟨0, _, _, _, _, _, _, _, _, _, _, _, _, _, _, _, _, _, _, _, _, _, _, _, _, _, _, _, _, _, _, _, _, _, _, _, [], rfl, rfl, by omega, trivial, HI0.out⟩
  rintro _ w ⟨k, u2, u3, u4, u12, u13, u14, u15, u16, u17, u18, u19, u20, u21, u22, u23, u24, u25, u26, u27, u28, u29, u30, u31, u32, u33, u34, u35, u36, u37, u38, u39, u40, u41, u42, u43, ds, rfl, rfl, hk, hmk, hI⟩
  clear HI0 hBr hBc hvx hvy hva
  by_cases hlt : k < 5
  · have hltI : (k : Int) < 5 := by omega
    have hc := hI.cell hlt
    obtain ⟨hF, eg⟩ := tells_fn k hlt
    have hbw := (Below.refl w.heap.size w).alloc (Nat.le_refl _) (.cells #[.int .i64 (k : Nat)] 3)
    have C := tell_in k hlt (m - 1) Br nodes X Y ars _ (hI.raw.keep (KpC.of_below hbw)) hI.good
    obtain ⟨fk, hfk⟩ : ∃ f, f = tells.getD k 0 := ⟨_, rfl⟩
    obtain ⟨ps, hps⟩ : ∃ ps, ps = (phases nodes X Y ars).getD k [] := ⟨_, rfl⟩
    rw [← hfk] at hc hF eg C
    rw [← hps] at C
    have hBp := Blk.new w #[.int .i64 (k : Nat)] 3 (0, 0)
    have HC := Lib.hid C; have HB := Lib.hid hbw; have HBp := Lib.hid hBp; have HI := Lib.hid hI; have HM := Lib.hid hmk; have HPs := Lib.hid hps
    clear C hbw hBp hI hmk hfk hps
    gi_wp2_with fail
    refine HC.out.mono ?_
    rintro e w2 ⟨gf, lb, rfl, hit, hb2⟩
    have hBp2 := HBp.out.below hb2 HBp.out.lt
    have hB2 := HB.out.next' hb2
    have HIt := Lib.hid hit; have HB2 := Lib.hid hB2; have HBp2 := Lib.hid hBp2
    clear hit hB2 hBp2 hb2 HBp HB HC hF eg hc
    gi_wp2_with fail
    refine wpIn_rangeDies (α := Pl) FK_round FK_ex hm (gf := gf) (lb := lb) rfl HIt.out.fn.1 HIt.out.fn.2 (fun x : Pl => #[.agg #[.int .i64 x.ix, .int .i64 x.fl, .int .i64 x.co, .int .i64 x.n, .int .i64 x.lo, .int .i64 x.hi]]) (fun _ => rfl) (fun A B => Below A.heap.size A B) KpC (fun xs _ => xs = ps) (PhT k w2) (· <+: ps) ps.length
      ?hit ?hSt (fun xs A => Below w2.heap.size w2 A ∧ ∀ p ∈ xs, p.bad = false) ?hIs ?hIp ?hIa ?hSp KpC.trans ?hKb ?h0
      (AheadG #[.agg #[.int .i64 nodes, vx, vy, va], .pointer (some ⟨Br, 0, none⟩), .pointer (some ⟨w.heap.size, 0, none⟩), .func (.func fk) #[] #[.pointer (some ⟨Br, 0, none⟩)], u4, .func (.func 63) #[] #[.pointer (some ⟨Br, 0, none⟩)], .func (.func 65) #[] #[.pointer (some ⟨Br, 0, none⟩)], .func (.func 67) #[] #[.pointer (some ⟨Br, 0, none⟩)], .func (.func 69) #[] #[.pointer (some ⟨Br, 0, none⟩)], .func (.func 70) #[] #[.pointer (some ⟨Br, 0, none⟩)], .slice (some ⟨Bc, 0, none⟩) 5 5, .int .i64 5, .int .i64 (k : Nat), .bool true, .int .i64 (k : Nat), .pointer (some ⟨Bc, k, none⟩), .func (.func fk) #[] #[.pointer (some ⟨Br, 0, none⟩)], .func (.func fk) #[] #[.pointer (some ⟨Br, 0, none⟩)], .func (.func gf) #[] lb, u19, u20, u21, u22, u23, u24, u25, u26, u27, u28, u29, u30, u31, u32, u33, u34, u35, u36, u37, u38, u39, u40, u41, u42, u43] w2) ?hAp ?hassign ?hbody ?hdone ?hthrow
    case hit =>
      intro l J U W3 hW hJ hY h0
      refine (it_in (m - 1) l gf lb ps J U hJ hY W3 (HIt.out.keep (KpC.of_below hW)) h0).mono ?_
      rintro e W4 (⟨v, rfl, h⟩ | ⟨ch, xs, rfl, h1, h2⟩)
      · exact .inl ⟨v, ps, rfl, rfl, h⟩
      · exact .inr ⟨ch, xs, rfl, h1, h2⟩
    case hSt =>
      intro A B j o hAB _ ho _
      exact (hAB.block j (Array.getElem?_eq_some_iff.1 ho).1).trans ho
    case hIs =>
      rintro xs A B ⟨h1, h2⟩ hAB
      exact ⟨h1.next' hAB, h2⟩
    case hIp =>
      rintro xs A l o o' ⟨h1, h2⟩ hl _ _
      exact ⟨below_put h1 hl, h2⟩
    case hIa =>
      rintro xs A o ⟨h1, h2⟩
      exact ⟨h1.alloc h1.size o, h2⟩
    case hSp =>
      rintro xs A l o o' h _ _ _
      exact h
    case hKb =>
      intro A l o o' _ ho hc
      exact KpC.put ho hc
    case h0 => exact ⟨Below.refl _ _, fun p hp => by cases hp⟩
    case hAp =>
      rintro pre x a1 A l o o' ⟨b, e, h1, h2, h3⟩ hl ho hc
      exact ⟨b, e, (KpC.put ho hc).blk h1, below_put h2 hl, h3⟩
    case hassign =>
      rintro l pre x A K ⟨h1, h2⟩ hlen hK
      clear HIt HI HM HPs HBp2 HB2
      gi_wp2_with fail
      refine hK _ _ ⟨A.heap.size, rfl, Blk.new _ _ _ _, h1.alloc h1.size _, h2⟩ ⟨by simp, fun k o _ hk ho => (Below.heap_alloc A _ k (Array.getElem?_eq_some_iff.1 hk).1).trans hk⟩ (KpC.of_below ((Below.refl _ _).alloc (Nat.le_refl _) _))
    case hbody =>
      rintro l pre x a1 A ⟨b, rfl, h1, h2, h3⟩ hlen
      simp only [List.setIfInBounds_toArray, List.set_cons_succ, List.set_cons_zero]
      have c2 := (HBp2.out.below h2 HBp2.out.lt).cell 0
      have d0 := h1.cell 0; have d1 := h1.cell 1; have d2 := h1.cell 2; have d3 := h1.cell 3; have d4 := h1.cell 4; have d5 := h1.cell 5
      change A.cell? ⟨w.heap.size, 0, none⟩ = some (.int .i64 (k : Nat)) at c2
      change A.cell? ⟨b, 0, none⟩ = some (.int .i64 x.ix) at d0
      change A.cell? ⟨b, 1, none⟩ = some (.int .i64 x.fl) at d1
      change A.cell? ⟨b, 2, none⟩ = some (.int .i64 x.co) at d2
      change A.cell? ⟨b, 3, none⟩ = some (.int .i64 x.n) at d3
      change A.cell? ⟨b, 4, none⟩ = some (.int .i64 x.lo) at d4
      change A.cell? ⟨b, 5, none⟩ = some (.int .i64 x.hi) at d5
      have H2 := Lib.hid h2; have H3 := Lib.hid h3
      clear h1 h2 h3 HIt HI HM HPs HBp2 HB2
      by_cases t1 : x.n < x.lo
      · have hbad : Hid (x.bad = true) := Lib.hid (by unfold Pl.bad; simp [t1])
        gi_wp2_with fail
        refine ⟨rfl, ⟨by simp, fun j o _ hj _ => (Below.heap_alloc A _ j (Array.getElem?_eq_some_iff.1 hj).1).trans hj⟩, pre, x, A.heap.size, rfl, H3.out, hbad.out, rfl, Blk.new _ _ _ _, H2.out.alloc H2.out.size _⟩
      by_cases t2 : x.hi ≤ x.n
      · have hbad : Hid (x.bad = true) := Lib.hid (by unfold Pl.bad; simp [t2])
        gi_wp2_with fail
        refine ⟨rfl, ⟨by simp, fun j o _ hj _ => (Below.heap_alloc A _ j (Array.getElem?_eq_some_iff.1 hj).1).trans hj⟩, pre, x, A.heap.size, rfl, H3.out, hbad.out, rfl, Blk.new _ _ _ _, H2.out.alloc H2.out.size _⟩
      have hgood : Hid (x.bad = false) := Lib.hid (by unfold Pl.bad; simp [t1, t2])
      gi_wp2_with fail
      refine ⟨⟨Nat.le_refl _, fun j o _ hj _ => hj⟩, KpC.refl _, H2.out, fun p hp => ?_⟩
      rcases List.mem_append.1 hp with hp | hp
      · exact H3.out p hp
      · obtain rfl := List.mem_singleton.1 hp
        exact hgood.out
    case hdone =>
      rintro D xs A hD rfl ⟨h1, h2⟩ hK
      have hMk := HM.out.more (HB2.out.next' h1) HI.out.below.size (Nat.le_trans HB2.out.size hD) hK
      have hIk : LookI W Br Bc nodes X Y ars (k + 1) A := by
        have h := HI.out.to (HB2.out.next' h1)
        exact ⟨h.below, h.raw, h.tell, phases_good hlt h.good (by rw [← HPs.out]; exact h2)⟩
      have HMk := Lib.hid hMk; have HIk := Lib.hid hIk
      clear hMk hIk h1 h2 hK HIt HI HM HPs HBp2 HB2
      gi_wp2_with fail
      refine ⟨⟨k + 1, _, _, _, _, _, _, _, _, _, _, _, _, _, _, _, _, _, _, _, _, _, _, _, _, _, _, _, _, _, _, _, _, _, _, _, _, rfl, by go_num, hlt, HMk.out, HIk.out⟩, ?_⟩
      show 5 - ((k : Int) + 1).toNat < 5 - ((k : Int)).toNat
      omega
    case hthrow =>
      rintro D ch xs A hD hpre ⟨pre, x, b, rfl, hg, hbad, rfl, hblk, hbel⟩ hK
      have hMk := HM.out.more (HB2.out.next' hbel) HI.out.below.size (Nat.le_trans HB2.out.size hD) hK
      have hlk : lookV (phases nodes X Y ars) 0 = some (k, x) := lookV_hit hlt HI.out.good (by rw [← HPs.out]; exact find_pre hpre hg hbad)
      refine leaves_marks (by simp) _ _ hMk (HI.out.below.trans ((HB2.out.next' hbel).mono HI.out.below.size)) fun w' hk' hb' => ?_
      exact ⟨.inr ⟨b, k, x, rfl, hlk, hk'.blk hblk⟩, hb'⟩
  · obtain rfl : k = 5 := by omega
    have e5 : Hid (lookV (phases nodes X Y ars) 0 = none) := Lib.hid (lookV_drop (phases nodes X Y ars) 5 0 hI.good (Nat.le_refl 5))
    have HI := Lib.hid hI; have HM := Lib.hid hmk
    clear hI hmk
    gi_wp2_with fail
    refine leaves_marks (by simp) _ _ HM.out HI.out.below fun w' hk' hb' => ?_
    exact ⟨_, by simp [results, Tryd.results46, go_sem], .inl ⟨rfl, e5.out⟩, hb'⟩
end Go.Proofs.YtnkcmlngoeofgaaDoor
