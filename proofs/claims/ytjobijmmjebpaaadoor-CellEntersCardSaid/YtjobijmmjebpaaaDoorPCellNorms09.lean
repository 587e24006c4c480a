/- Texts of the law CellNorms, merged: CellBorder, OutMore. -/
import Derived.Test.YtjobijmmjebpaaaDoorPCellNorms08
import Derived.Test.YtjobijmmjebpaaaDoorPCellNorms06
import Derived.Test.YtjobijmmjebpaaaDoorPCellNorms02
import Derived.Test.YtjobijmmjebpaaaDoorPCellNorms04
import Derived.Deep.Cut
import Derived.Deep.CutRange
import Derived.Deep.CutBlock
/- cell: (*Cells).Border. -/
namespace Go.Proofs.YtjobijmmjebpaaaDoor
open Go.RowKit Go.Shelf
attribute [local go_sem] Oper.semAt_some
structure Col2 (w0 W : World) (B : Nat) (v : Value) (R : List Int) : Prop where
  box : Boxed W B 30 v
  row : W.ownsRow B 3 1 v R.length (R.flatMap inC)
  below : Below B w0 W
theorem col2_own {w0 : World} {B n : Nat} (hlw : B ≤ w0.heap.size) (hlo : B ≤ n) : OwnFrom n (fun (R : List Int) W => ∃ v, Col2 w0 W B v R) := fun s A C row hs hg hr => by
  obtain ⟨v, h⟩ := hs
  have hne : ∀ k cs t fr, Blk A k cs t fr → C.heap[k]? = A.heap[k]? := fun k cs t fr hb => hg.block k hb.lt (fun e => by
    obtain ⟨_, o, ho, hc⟩ := hr _ e.symm
    rw [show A.heap[k]? = _ from hb] at ho
    obtain rfl := Option.some.inj ho
    cases hc)
  exact ⟨v, (hne _ _ _ _ h.box).trans h.box, ownsRow_agree' h.row (fun k e => by obtain ⟨_, _, hq⟩ := ownsRow_blk' h.row e; exact hne _ _ _ _ hq), h.below.grown hg (Nat.le_trans hlw h.below.size) (fun k e => Nat.le_trans hlo (hr k e).1)⟩
set_option maxRecDepth 100000 in
set_option maxHeartbeats 8000000 in
theorem appendSeq_core (m : Nat) (hm : 2 ≤ m) (gf : Nat) (lb : Array Value) (ys0 : List Int) (N : Nat) (hN : N ≤ 1000000) (Kp : World → World → Prop) (w : World)
    (hseq : SeqStopsK Fence.wide (m - 1) Tryd.prog gf lb encN Kp (fun ys => ys = ys0) (fun _ => True) N w) (eg : ∀ args w, (callFunc gf args).run Tryd.prog w = .ok (.enter gf args) w)
    (hKt : ∀ {A B C : World}, Kp A B → Kp B C → Kp A C) (hKp : ∀ A B, Below w.heap.size A B → w.heap.size ≤ A.heap.size → Kp A B) :
    CallsIn Fence.wide m Tryd.prog 50 #[.slice none 0 0, .func (.func gf) #[] lb] w fun e W' => ∃ v, e = .returned v ∧ W'.ownsRow w.heap.size 3 1 v ys0.length (ys0.flatMap inC) ∧ Below w.heap.size w W' := by
  have h1 : 1 ≤ m := by omega
  obtain ⟨i0, hi, hz0, hz1, hz2⟩ := info_parts infoInt
  have HI := Lib.hid (And.intro hi (And.intro hz0 (And.intro hz1 hz2)))
  clear hi hz0 hz1 hz2
  refine callsIn_of_wp_marks Tryd.func50 rfl trivial ?_ rfl
  simp only [Tryd.ntmps50, List.size_toArray, List.length_cons, List.length_nil, Nat.reduceAdd, Nat.reduceSub, Array.replicate_succ, Array.replicate_zero, List.push_toArray, List.append_toArray, List.nil_append, List.cons_append]
  obtain ⟨z, hz⟩ : ∃ z, z = w.heap.size := ⟨_, rfl⟩
  obtain ⟨W5, hW5⟩ : ∃ u, u = w.alloc (.cells #[.slice none 0 0] 30) := ⟨_, rfl⟩
  have hb5 : Below w.heap.size w W5 := by rw [hW5]; exact (Below.refl _ _).alloc (Nat.le_refl _) _
  have k2 : Blk W5 z #[.slice none 0 0] 30 (0, 0) := by rw [hW5, hz]; exact Blk.new _ _ _ _
  have hs5 : W5.heap.size = z + 1 := by rw [hW5]; simp [hz]
  have HW5 := Lib.hid hW5; have HZ := Lib.hid hz
  have hcol : Col2 W5 W5 z (.slice none 0 0) [] := ⟨k2, World.ownsRow_nil _ _ _ _, Below.refl _ _⟩
  have HCol := Lib.hid hcol
  rw [← hz] at hKp hb5
  have HB5 := Lib.hid hb5
  clear hW5 k2 hcol hb5
  gi_wp2_with fail
  rw [← HW5.out, ← hz]
  clear hz
  refine wpIn_rangeFunc_ownG (F := Fence.wide) rfl h1 (gf := gf) (lb := lb) rfl trivial eg
    hseq hKt (fun W l o o' hl ho hc hwk => hKp _ _ (belowK_b (w := W5) (by omega) W l o o' hl ho hc hwk) (by have := (Array.getElem?_eq_some_iff.1 ho).1; omega)) (by rw [← HZ.out]; exact HB5.out) (fun _ => rfl)
    (fun pre W => ∃ v, Col2 W5 W z v pre)
    (fun _ _ _ => False)
    (col2_own (by omega) (by omega))
    (fun _ _ _ _ _ hs _ _ => hs)
    ⟨_, HCol.out⟩
    ?a1 ?assign ?body ?done ?stop
  case assign =>
    intro l x W K hK
    dsimp only [encN]
    gi_wp2
    exact hK
  case body =>
    rintro l pre x W ⟨v, hN⟩ hlt
    have hc := hN.box.cell
    have hrow := hN.row
    obtain ⟨va, vn, vc, rfl⟩ := hrow.one'
    have hsz := hN.below.size
    gi_wp2_with (gi_at_builtin; refine wpListIn_append_own_at (F := _) _ rfl _ _ 30 rfl z 3 i0 (.int .i64 0) 1 8 Tryd.underlying30 HI.out.1 HI.out.2.1 HI.out.2.2.1 HI.out.2.2.2 rfl (by decide) _ _ _ rfl (hrow.alloc _) ⟨W.heap.size, 0, none⟩ 1 1 [.int .i64 x] rfl rfl (cell_one_new _ _ _) (by simp [Value.oneCell']) (by unfold maxLen; omega) (by omega) (by simp; omega) ?_; intro v' w1 hown' hgrow _ _; obtain ⟨g', cap', rfl⟩ := ownsRow_succ hown'; obtain ⟨hv1, hv2, hr2, hk2, hb2⟩ := hN.box.appended (by decide) hrow (by omega) (Nat.le_refl _) hown' hgrow; have hc1 := hv1.cell; have hf1 := hv1.frozen)
    refine ⟨hk2.from _, hKp _ _ hb2 (by omega), ⟨_, hv2, ?_, hN.below.trans hb2⟩⟩
    rw [List.length_append, List.flatMap_append]
    simpa [inC] using hr2
  case done =>
    rintro D ys W hD rfl ⟨v, hN⟩ hDf
    obtain ⟨va, vn, vc, rfl⟩ := hN.row.one'
    have hc := hN.box.cell
    have HN := Lib.hid hN
    clear hN
    gi_wp2_with fail
    rw [← HZ.out]
    refine leaves_marks (B := z) (by simp) _ _ ⟨⟨D, rfl, by omega, hDf, fun d' h => by cases h⟩, trivial⟩ (HB5.out.trans HN.out.below) fun w' hk' hb' => ?_
    exact ⟨_, results_tmp rfl _ _ _, _, rfl, ownsRow_agree' HN.out.row (fun k e => by obtain ⟨_, _, hq⟩ := ownsRow_blk' HN.out.row e; exact (hk'.blk hq).trans (show _ = _ from hq).symm), hb'⟩
  case stop =>
    rintro D c pre W _ _ h _
    exact h.elim
theorem collect_core (m : Nat) (hm : 3 ≤ m) (gf : Nat) (lb : Array Value) (ys0 : List Int) (N : Nat) (hN : N ≤ 1000000) (Kp : World → World → Prop) (w : World)
    (hseq : SeqStopsK Fence.wide (m - 1 - 1) Tryd.prog gf lb encN Kp (fun ys => ys = ys0) (fun _ => True) N w) (eg : ∀ args w, (callFunc gf args).run Tryd.prog w = .ok (.enter gf args) w)
    (hKt : ∀ {A B C : World}, Kp A B → Kp B C → Kp A C) (hKp : ∀ A B, Below w.heap.size A B → w.heap.size ≤ A.heap.size → Kp A B) :
    CallsIn Fence.wide m Tryd.prog 32 #[.func (.func gf) #[] lb] w fun e W' => ∃ v, e = .returned v ∧ W'.ownsRow w.heap.size 3 1 v ys0.length (ys0.flatMap inC) ∧ Below w.heap.size w W' := by
  have HC := Lib.hid (appendSeq_core (m - 1) (by omega) gf lb ys0 N hN Kp w hseq eg hKt hKp)
  clear hseq eg hKt hKp
  refine callsIn_of_wp Tryd.func32 rfl trivial ?_ rfl
  simp only [Tryd.ntmps32, List.size_toArray, List.length_cons, List.length_nil, Nat.reduceAdd, Nat.reduceSub, Array.replicate_succ, Array.replicate_zero, List.push_toArray, List.append_toArray, List.nil_append, List.cons_append]
  gi_wp2_with fail
  refine ⟨trivial, ?_⟩
  refine ⟨fun _ => by omega, ?_⟩
  refine HC.out.mono ?_
  rintro e w2 ⟨v, rfl, ho, hb⟩
  have H := Lib.hid (And.intro ho hb)
  clear ho hb
  gi_wp2_with fail
  go_ret
  exact ⟨v, rfl, H.out.1, H.out.2⟩
/-- an arc comes from beyond -/
def beyondH (g : Raw) (L : List Int) (c : Int) (i : Int) : Bool := decide (ofV L ((arcI g i).getD (0, 0, 0)).1 ≠ c)
set_option maxHeartbeats 4000000 in
theorem border1_any (q1 q2 q3 n p : Nat) (g : Raw) (L : List Int) (many c i : Int) (u : World) (h1 : Blk u q1 #[.pointer (some ⟨n, 0, none⟩)] 28 (0, 0)) (h2 : Blk u q2 #[.pointer (some ⟨p, 0, none⟩)] 33 (0, 0)) (h3 : Blk u q3 #[.int .i64 c] 3 (0, 0)) (hN : NetAt u n g) (hC : CellsAt u p L many)
    (hi : 0 ≤ ((arcI g i).getD (0, 0, 0)).1 ∧ ((arcI g i).getD (0, 0, 0)).1 < L.length) :
    Calls Tryd.prog 30 #[.int .i64 i, .pointer (some ⟨q1, 0, none⟩), .pointer (some ⟨q2, 0, none⟩), .pointer (some ⟨q3, 0, none⟩)] u fun e w' => e = .returned (.bool (beyondH g L c i)) ∧ Below u.heap.size u w' := by
  have c1 := h1.cell 0
  simp only [List.getElem?_toArray, List.getElem?_cons_zero] at c1
  have hCa := arc_anyI n g i u hN
  unfold beyondH
  obtain ⟨a, ha⟩ : ∃ a, a = (arcI g i).getD (0, 0, 0) := ⟨_, rfl⟩
  rw [← ha] at hCa hi ⊢
  obtain ⟨x0, x1, x2⟩ := a
  dsimp only at hi ⊢
  obtain ⟨q, hq⟩ : ∃ q, q = (arcI g i).isSome := ⟨_, rfl⟩
  rw [← hq] at hCa
  change Calls _ _ _ _ (fun e w' => e = .returned (.tuple #[.agg #[.int .i64 x0, .int .i64 x1, .int .i64 x2], .bool q]) ∧ Below u.heap.size u w') at hCa
  have HCa := Lib.hid hCa; have H2 := Lib.hid h2; have H3 := Lib.hid h3; have HC := Lib.hid hC; have Hi := Lib.hid hi
  clear hCa ha hq h1 h2 h3 hC hi hN
  go_enter Tryd.func30, Tryd.ntmps30
  go_wp2_with fail
  refine HCa.out.mono ?_
  rintro e u2 ⟨rfl, hb⟩
  obtain ⟨u3, hu3⟩ : ∃ x, x = u2.alloc (.cells #[.int .i64 x0, .int .i64 x1, .int .i64 x2] 45) := ⟨_, rfl⟩
  have hb3 : Below u2.heap.size u2 u3 := by rw [hu3]; exact (Below.refl _ _).alloc (Nat.le_refl _) _
  have hbu := hb.next' hb3
  have k6 : Blk u3 u2.heap.size #[.int .i64 x0, .int .i64 x1, .int .i64 x2] 45 (0, 0) := by rw [hu3]; exact Blk.new _ _ _ _
  have d0 := k6.cell 0
  have d2 := (H2.out.below hbu H2.out.lt).cell 0
  have d3 := (H3.out.below hbu H3.out.lt).cell 0
  simp only [List.getElem?_toArray, List.getElem?_cons_zero] at d0 d2 d3
  obtain ⟨aa, ac, e0, _, hs⟩ := (HC.out.keep (KpC.of_below hbu)).cells
  obtain ⟨k, hk⟩ := Int.eq_ofNat_of_zero_le Hi.out.1
  have hkl : k < L.length := by have := Hi.out.2; omega
  subst hk
  obtain ⟨bl, ol, rfl, dl⟩ := hs.at k hkl
  obtain ⟨x, hx⟩ : ∃ x, x = L[k] := ⟨_, rfl⟩
  have he : ofV L (k : Nat) = x := by unfold ofV; rw [if_pos ⟨by omega, by omega⟩, Int.toNat_natCast, List.getElem?_eq_getElem hkl, hx]; rfl
  rw [← hx] at dl
  have hd : decide (x ≠ c) = !(x == c) := by by_cases h : x = c <;> simp [h]
  have HE := Lib.hid (And.intro he hd)
  have i1 : (0 : Int) ≤ (k : Int) := by omega
  have i2 : (k : Int) < (L.length : Int) := by omega
  rw [hu3] at d0 d2 d3 e0 dl
  have HB3 := Lib.hid hbu; have HU3 := Lib.hid hu3
  clear hb hb3 hbu k6 hs hx he hd hu3 HCa c1
  go_wp2_with fail
  go_quiet (fail)
  go_wp2_with fail
  go_ret
  rw [← HU3.out, HE.out.1, HE.out.2]
  exact ⟨rfl, below_drewN HB3.out _⟩
set_option maxHeartbeats 8000000 in
theorem indexFunc_any (q1 q2 q3 : Nat) (va : Value) (A : List Int) (h : Int → Bool) (w : World) (ha : SlX w va A) (hA : A.length ≤ 1000000000)
    (hH : ∀ u, Below w.heap.size w u → ∀ x ∈ A, Calls Tryd.prog 30 #[.int .i64 x, .pointer (some ⟨q1, 0, none⟩), .pointer (some ⟨q2, 0, none⟩), .pointer (some ⟨q3, 0, none⟩)] u fun e w' => e = .returned (.bool (h x)) ∧ Below u.heap.size u w') :
    Calls Tryd.prog 52 #[va, .func (.func 30) #[] #[.pointer (some ⟨q1, 0, none⟩), .pointer (some ⟨q2, 0, none⟩), .pointer (some ⟨q3, 0, none⟩)]] w fun e w' => (∃ i, e = .returned (.int .i64 i) ∧ ((0 ≤ i ∧ A.any h = true) ∨ (i = -1 ∧ A.any h = false))) ∧ Below w.heap.size w w' := by
  have HA := Lib.hid ha; have HH := Lib.hid hH
  obtain ⟨a, ca, rfl, _⟩ := ha
  clear hH
  go_enter Tryd.func52, Tryd.ntmps52
  go_wp2_with fail
  go_loopw [8] (fun i wr => ∃ k : Nat, i = .int .i64 k ∧ Hid (k ≤ A.length ∧ (A.take k).any h = false ∧ Below w.heap.size w wr)) (fun i _ => A.length - (intOf i).toNat)
  case atStart => exact ⟨0, rfl, Lib.hid ⟨Nat.zero_le _, rfl, Below.refl _ _⟩⟩
  case round =>
    obtain ⟨k, rfl, HI⟩ := hrel
    by_cases hlt : k < A.length
    · have hltI : (k : Int) < (A.length : Int) := by omega
      have k0 : (0 : Int) ≤ (k : Int) := by omega
      obtain ⟨ba, oa, rfl, d⟩ := (HA.out.keep (KpC.of_below HI.out.2.2)).at k hlt
      obtain ⟨x, hx⟩ : ∃ x, x = A[k] := ⟨_, rfl⟩
      have hCx := HH.out wr HI.out.2.2 x (by rw [hx]; exact List.getElem_mem hlt)
      have htk : (A.take (k + 1)).any h = ((A.take k).any h || h x) := by rw [List.take_succ_eq_append_getElem hlt, List.any_append, hx]; simp
      have hany : h x = true → A.any h = true := fun e => List.any_eq_true.2 ⟨x, by rw [hx]; exact List.getElem_mem hlt, e⟩
      rw [← hx] at d
      obtain ⟨b, hb⟩ : ∃ b, b = h x := ⟨_, rfl⟩
      rw [← hb] at hCx htk hany
      have HC := Lib.hid hCx; have HT := Lib.hid htk; have HAny := Lib.hid hany
      clear hCx htk hany hx hb
      cases b with
      | true =>
        go_wp2_with fail
        refine HC.out.mono ?_
        rintro e w2 ⟨rfl, hb⟩
        have HB := Lib.hid (HI.out.2.2.next' hb)
        clear hb
        go_wp2_with fail
        go_ret
        exact ⟨⟨_, rfl, .inl ⟨k0, HAny.out trivial⟩⟩, HB.out⟩
      | false =>
        go_wp2_with fail
        refine HC.out.mono ?_
        rintro e w2 ⟨rfl, hb⟩
        have HNew := Lib.hid (show k + 1 ≤ A.length ∧ (A.take (k + 1)).any h = false ∧ Below w.heap.size w w2 from ⟨hlt, by rw [HT.out, HI.out.2.1]; rfl, HI.out.2.2.next' hb⟩)
        clear hb
        go_wp2_with fail
        go_roundw
        case rel => exact ⟨k + 1, by go_num, HNew⟩
        case measure => simp [intOf]; omega
    · obtain rfl : k = A.length := by have := HI.out.1; omega
      have h2 := HI.out.2.1
      rw [List.take_length] at h2
      have H2 := Lib.hid h2
      clear h2
      go_wp2_with fail
      go_ret
      exact ⟨⟨_, rfl, .inr ⟨rfl, H2.out⟩⟩, HI.out.2.2⟩
theorem containsFunc_any (q1 q2 q3 : Nat) (va : Value) (A : List Int) (h : Int → Bool) (w : World) (ha : SlX w va A) (hA : A.length ≤ 1000000000)
    (hH : ∀ u, Below w.heap.size w u → ∀ x ∈ A, Calls Tryd.prog 30 #[.int .i64 x, .pointer (some ⟨q1, 0, none⟩), .pointer (some ⟨q2, 0, none⟩), .pointer (some ⟨q3, 0, none⟩)] u fun e w' => e = .returned (.bool (h x)) ∧ Below u.heap.size u w') :
    Calls Tryd.prog 35 #[va, .func (.func 30) #[] #[.pointer (some ⟨q1, 0, none⟩), .pointer (some ⟨q2, 0, none⟩), .pointer (some ⟨q3, 0, none⟩)]] w fun e w' => e = .returned (.bool (A.any h)) ∧ Below w.heap.size w w' := by
  have HC := Lib.hid (indexFunc_any q1 q2 q3 va A h w ha hA hH)
  obtain ⟨a, ca, rfl, _⟩ := ha
  clear hH
  go_enter Tryd.func35, Tryd.ntmps35
  go_wp2_with fail
  refine HC.out.mono ?_
  rintro e w2 ⟨⟨i, rfl, hi⟩, hb⟩
  have HB := Lib.hid hb
  clear hb
  rcases hi with ⟨h0, h1⟩ | ⟨rfl, h1⟩
  · have H1 := Lib.hid h1
    clear h1
    go_wp2_with fail
    go_ret
    refine ⟨?_, HB.out⟩
    have : decide (0 ≤ i) = true := decide_eq_true h0
    rw [H1.out]
    simp_all
  · have H1 := Lib.hid h1
    clear h1
    go_wp2_with fail
    go_ret
    rw [H1.out]
    exact ⟨rfl, HB.out⟩
end Go.Proofs.YtjobijmmjebpaaaDoor
/- A graph of ours in a variable: what else may be done with it; rows of arguments cut; operations that are passed over. -/
namespace Go.Proofs.YtjobijmmjebpaaaDoor
open Go.RowKit
/-- where a row that is ours begins -/
theorem ownForm {w : World} {base : Nat} {e : TypeId} {v : Value} {n size : Nat} {xs : List Value} (h : w.ownsRow base e size v n xs) : ∃ a c, v = .slice a n c ∧ (0 < n → ∃ g, a = some ⟨g, 0, none⟩) := by
  rcases h.2 with ⟨h, h0⟩ | ⟨g, cap, cur, h, _⟩
  · exact ⟨_, _, by rw [h0]; exact h, fun h => by omega⟩
  · exact ⟨_, _, h, fun _ => ⟨g, rfl⟩⟩
theorem OutI.cellA {w1 W : World} {Bo : Nat} {vx vy : Value} {g n cap : Nat} {r : Raw} (h : OutI w1 Bo vx vy (.slice (some ⟨g, 0, none⟩) n cap) r W) (hn : r.arcs.length = n) (k d : Nat) (hk : k < r.arcs.length) (hd : d < 3) :
    (∃ v, W.cell? ⟨g, k * 3 + d, none⟩ = some v) ∧ W.frozen? ⟨g, k * 3 + d, none⟩ = false := by
  obtain ⟨_, _, hg⟩ := ownsRow_blk' h.own.2.2.1 (g := g) rfl
  refine ⟨?_, hg.free _ (Or.inr (Nat.zero_le _))⟩
  have sA : SlA W (.slice (some ⟨g, 0, none⟩) n cap) r.arcs := slA_own hn (by have h := h.own.2.2.1; rwa [hn] at h)
  obtain ⟨b, off, e, d0, d1, d2⟩ := sA.at k hk
  obtain ⟨rfl, rfl⟩ : g = b ∧ 0 = off := by simpa using e
  rw [Nat.zero_add] at d0 d1 d2
  match d, hd with
  | 0, _ => exact ⟨_, d0⟩
  | 1, _ => exact ⟨_, d1⟩
  | 2, _ => exact ⟨_, d2⟩
section
variable {P : Program} {ops : Array Oper} {Q : Exit → Act → World → Prop} {S : World → Prop}
theorem heldA_skip {i d : Nat} {oi : Oper} {fuel : Nat} {listed : Array Bool} {tmps : Array Value} {ds : List Deferred} {w : World} (hi : ops[i]? = some oi) (hd : oi.dst = some d) (hs : Region.noSelect ops = true) (hf : Region.free .any ops listed i = true)
    (hr : (Region.ready .any ops listed).contains i = true) (hQ : ∀ c a w, Q (.panic c) (a.put oi.dst undef) w → Q (.panic c) a w) (hw : Region.wanted oi (yielded ops tmps) = false) (hS : S w)
    (h : wpAnyH P .any ops Q S fuel (listed.setIfInBounds i true) { tmps := tmps.setIfInBounds d undef, defers := ds } w) : wpAnyH P .any ops Q S (fuel + 1) listed { tmps := tmps, defers := ds } w :=
  wpAnyH_take hi hs hf hr hQ (Or.inr ⟨hw, rfl⟩) hS (by rw [hd]; exact h)
end
theorem inC_map (L : List Int) : L.flatMap inC = L.map (Value.int .i64) := by
  induction L with
  | nil => rfl
  | cons x L ih => rw [List.flatMap_cons, ih]; rfl
theorem OutI.takeY {w1 W : World} {Bo : Nat} {vx va : Value} {g n cap : Nat} {r : Raw} (h : OutI w1 Bo vx (.slice (some ⟨g, 0, none⟩) n cap) va r W) (hn : r.Y.length = n) (m : Nat) (hm : m ≤ n) :
    OutI w1 Bo vx (.slice (some ⟨g, 0, none⟩) m cap) va { r with Y := r.Y.take m } (W.setCell ⟨Bo, 2, none⟩ (.slice (some ⟨g, 0, none⟩) m cap)) := by
  have hown := h.own.2.1
  obtain ⟨hl, h2⟩ := hown
  have hY : W.ownsRow w1.heap.size 2 1 (.slice (some ⟨g, 0, none⟩) m cap) (r.Y.take m).length ((r.Y.take m).flatMap inC) := by
    have hlm : (r.Y.take m).length = m := by rw [List.length_take]; omega
    rw [hlm]
    refine ⟨by rw [inC_map, List.length_map, hlm, Nat.mul_one], ?_⟩
    rcases h2 with ⟨e, _⟩ | ⟨g', cap', cur, ev, hb, hg, hnc, hcm, hcs, ht⟩
    · cases e
    · obtain ⟨rfl, _, rfl⟩ : g = g' ∧ n = r.Y.length ∧ cap = cap' := by simpa using ev
      refine .inr ⟨g, cap, cur, rfl, hb, hg, by omega, hcm, hcs, ?_⟩
      have : (cur.toList.take (r.Y.length * 1)).take (m * 1) = (r.Y.flatMap inC).take (m * 1) := by rw [ht]
      rw [List.take_take, Nat.min_eq_left (by omega)] at this
      rw [this, inC_map, inC_map, List.map_take, Nat.mul_one]
  have hO : Own3 w1.heap.size W vx (.slice (some ⟨g, 0, none⟩) m cap) va { r with Y := r.Y.take m } := ⟨h.own.1, hY, h.own.2.2.1, fun b h1 h3 => h.own.2.2.2 b h1 (by simpa [Value.ownBlock] using h3)⟩
  exact ⟨h.blk.set 2 _, hO.set (p := ⟨Bo, 2, none⟩) h.blk (by decide) (by decide) _, h.kept.setCell (p := ⟨Bo, 2, none⟩) rfl _⟩
theorem OutI.setN {w1 W : World} {Bo : Nat} {vx vy va : Value} {r : Raw} (h : OutI w1 Bo vx vy va r W) (n : Int) : OutI w1 Bo vx vy va { r with nodes := n } (W.setCell ⟨Bo, 0, none⟩ (.int .i64 n)) :=
  ⟨h.blk.set 0 _, Own3.set (r := { r with nodes := n }) (p := ⟨Bo, 0, none⟩) h.own h.blk (by decide) (by decide) _, h.kept.setCell (p := ⟨Bo, 0, none⟩) rfl _⟩
theorem ownCellB {w : World} {lo : Nat} {e : TypeId} {gl c : Nat} {R : List Int} (h : w.ownsRow lo e 1 (.slice (some ⟨gl, 0, none⟩) R.length c) R.length (R.flatMap inC)) {i : Nat} (hi : i < R.length) : ∃ x, w.cell? ⟨gl, i, none⟩ = some x := by
  obtain ⟨b, off, e2, hc⟩ := (slX_own rfl h).at i hi
  obtain ⟨rfl, rfl⟩ : gl = b ∧ 0 = off := by simpa using e2
  rw [Nat.zero_add] at hc
  exact ⟨_, hc⟩
theorem OutI.cellX {w1 W : World} {Bo : Nat} {vy va : Value} {g n cap : Nat} {r : Raw} (h : OutI w1 Bo (.slice (some ⟨g, 0, none⟩) n cap) vy va r W) (hn : r.X.length = n) (k : Nat) (hk : k < n) : (∃ v, W.cell? ⟨g, k, none⟩ = some v) ∧ W.frozen? ⟨g, k, none⟩ = false := by
  subst hn
  obtain ⟨_, _, hg⟩ := ownsRow_blk' h.own.1 (g := g) rfl
  exact ⟨ownCellB h.own.1 hk, hg.free _ (Or.inr (Nat.zero_le _))⟩
theorem OutI.cellY {w1 W : World} {Bo : Nat} {vx va : Value} {g n cap : Nat} {r : Raw} (h : OutI w1 Bo vx (.slice (some ⟨g, 0, none⟩) n cap) va r W) (hn : r.Y.length = n) (k : Nat) (hk : k < n) : (∃ v, W.cell? ⟨g, k, none⟩ = some v) ∧ W.frozen? ⟨g, k, none⟩ = false := by
  subst hn
  obtain ⟨_, _, hg⟩ := ownsRow_blk' h.own.2.1 (g := g) rfl
  exact ⟨ownCellB h.own.2.1 hk, hg.free _ (Or.inr (Nat.zero_le _))⟩
theorem SlA.cut {w : World} {a : Option Addr} {n cap : Nat} {L : List Ar} (h : SlA w (.slice a n cap) L) (m : Nat) (hm : m ≤ L.length) : SlA w (.slice a m cap) (L.take m) := by
  obtain ⟨a', cap', e, h1, h2, h3⟩ := h
  obtain ⟨rfl, rfl, rfl⟩ : a = a' ∧ n = L.length ∧ cap = cap' := by simpa using e
  have hl : (L.take m).length = m := by rw [List.length_take]; omega
  refine ⟨a, cap, by rw [hl], by omega, h2, fun i hi => ?_⟩
  have hi' : i < L.length := by omega
  rw [List.getElem_take]
  exact h3 i hi'
end Go.Proofs.YtjobijmmjebpaaaDoor
