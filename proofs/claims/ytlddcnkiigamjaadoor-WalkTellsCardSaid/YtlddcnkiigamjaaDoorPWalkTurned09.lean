/- Texts of the law WalkTurned, merged: GridMap. -/
import Derived.Test.YtlddcnkiigamjaaDoorPWalkTurned07
import Derived.Test.YtlddcnkiigamjaaDoorPWalkTurned08
import Derived.Test.YtlddcnkiigamjaaDoorPWalkTurned06
import Derived.Test.YtlddcnkiigamjaaDoorPWalkTurned03
import Derived.Laws.EntriesVeiled
/- grid.Map: each node's cell. -/
namespace Go.Proofs.YtlddcnkiigamjaaDoor
open Go.RowKit Go.Shelf
attribute [local go_sem] Oper.semAt_some
theorem Own.and' {β : Type} {I I' : β → World → Prop} (h : Own I) (h' : Own I') : Own (fun s W => I s W ∧ I' s W) := fun s W W' row hs hg hr => ⟨h s W W' row hs.1 hg hr, h' s W W' row hs.2 hg hr⟩
theorem blk_own {β : Type} (b : Nat) (t : TypeId) (fr : Nat × Nat) (cs : β → Array Value) : Own (fun s W => Blk W b (cs s) t fr) := fun s A B row hs hg hr =>
  (hg.block b hs.lt (fun e => by
    obtain ⟨o, ho, hc⟩ := hr _ e.symm
    rw [show A.heap[b]? = _ from hs] at ho
    obtain rfl := Option.some.inj ho
    cases hc)).trans hs
theorem ownFrom_kept {β : Type} {S : Nat → Prop} {W0 : World} {B : Nat} (hB : W0.heap.size ≤ B) : OwnFrom B (fun (_ : β) W => Kept S W0 W) := fun _ A C row hs hg hr =>
  ⟨hg.os.trans hs.os, hg.tape.trans hs.tape, hg.output.trans hs.output, Nat.le_trans hs.size hg.size, fun k hk hS => (hg.block k (Nat.lt_of_lt_of_le hk hs.size) (fun e => by have := (hr _ e.symm).1; omega)).trans (hs.block k hk hS)⟩
theorem endsC_form (e : Option (Int × Int)) : ∃ a b q, endsC e = #[.int .i64 a, .int .i64 b, .bool q] := by
  cases e with
  | none => exact ⟨_, _, _, rfl⟩
  | some p => exact ⟨_, _, _, rfl⟩
theorem endsC_get (e : Option (Int × Int)) : ∃ q, endsC e = #[.int .i64 (e.getD (0, 0)).1, .int .i64 (e.getD (0, 0)).2, .bool q] := by
  cases e with
  | none => exact ⟨_, rfl⟩
  | some p => exact ⟨_, rfl⟩
theorem ends_in {L : List Int} {x : Int} (h : x ∈ L) : ((endsV L).getD (0, 0)).1 ≤ x ∧ x ≤ ((endsV L).getD (0, 0)).2 ∧ ((endsV L).getD (0, 0)).1 ∈ L ∧ ((endsV L).getD (0, 0)).2 ∈ L := by
  cases L with
  | nil => cases h
  | cons y L =>
    obtain ⟨a, b, c, d⟩ := ends_of (L := y :: L) rfl
    exact ⟨(b x h).1, (b x h).2, c, d⟩
/-- what a round leaves that turns the blocks of S alone -/
theorem round_kept {S : Nat → Prop} {W W' : World} {B lo Bn : Nat} (h : Kept S W W') (hS : ∀ k, S k → k < B ∧ lo ≤ k ∧ k ≠ Bn) (hlo : lo ≤ W.heap.size) (hBn : Bn < W.heap.size) : KeepsFrom B W W' ∧ KpB lo Bn W W' :=
  ⟨⟨h.size, fun k o hk ho _ => (h.block k (Array.getElem?_eq_some_iff.1 ho).1 (fun e => by have := (hS k e).1; omega)).trans ho⟩, h.below hlo (fun k e => (hS k e).2.1), h.block Bn hBn (fun e => (hS Bn e).2.2 rfl)⟩
/-- what a round leaves that appends onto a row of ours, in a variable of ours -/
theorem round_push {V u w' W0 : World} {B4 lo Bn n size : Nat} {v x : Value} {xs : List Value} {e t : TypeId} {cs : Array Value} {fr : Nat × Nat} (hu : Below V.heap.size V u) (hown : u.ownsRow W0.heap.size e size v n xs) (hg : u.grownBy w' v.ownBlock) (h4 : Blk V B4 cs t fr)
    (hlo : lo ≤ B4) (h4B : B4 < W0.heap.size) (hBn : Bn < W0.heap.size ∧ Bn ≠ B4) (hK : Kept (fun k => k = B4) W0 V) :
    KeepsFrom W0.heap.size V (w'.setCell ⟨B4, 0, none⟩ x) ∧ KpB lo Bn V (w'.setCell ⟨B4, 0, none⟩ x) ∧ Kept (fun k => k = B4) W0 (w'.setCell ⟨B4, 0, none⟩ x) := by
  have hsz := hK.size
  have hk : ∀ k, k < V.heap.size → k ≠ B4 → some k ≠ v.ownBlock → (w'.setCell ⟨B4, 0, none⟩ x).heap[k]? = V.heap[k]? := fun k h1 h2 h3 => (heap_setCell_other _ _ _ _ h2).trans ((hg.block k (Nat.lt_of_lt_of_le h1 hu.size) h3).trans (hu.block k h1))
  have hs : V.heap.size ≤ (w'.setCell ⟨B4, 0, none⟩ x).heap.size := by have := hu.size; have := hg.size; simp; omega
  have ho : ∀ k, k < W0.heap.size → some k ≠ v.ownBlock := fun k h e => by have := (ownsRow_blk' hown e.symm).1; omega
  refine ⟨⟨hs, fun k o hB hko hoc => ?_⟩, ⟨⟨hg.os.trans hu.os, hg.tape.trans hu.tape, hg.output.trans hu.output, hs, fun k hk' => hk k (by omega) (by omega) (ho k (by omega))⟩, hk Bn (by omega) hBn.2 (ho Bn hBn.1)⟩, ⟨(hg.os.trans hu.os).trans hK.os, (hg.tape.trans hu.tape).trans hK.tape, (hg.output.trans hu.output).trans hK.output, Nat.le_trans hsz hs, fun k h1 h2 => (hk k (by omega) h2 (ho k h1)).trans (hK.block k h1 h2)⟩⟩
  refine (hk k (Array.getElem?_eq_some_iff.1 hko).1 (fun e => ?_) (fun e => ?_)).trans hko
  · subst e
    rw [show V.heap[k]? = _ from h4] at hko
    obtain rfl := Option.some.inj hko
    cases hoc
  · obtain ⟨_, cur, hb⟩ := ownsRow_blk' hown e.symm
    have h2 := (hu.block k (Array.getElem?_eq_some_iff.1 hko).1).symm.trans (show u.heap[k]? = _ from hb)
    rw [h2] at hko
    obtain rfl := Option.some.inj hko
    cases hoc
set_option maxHeartbeats 2000000 in
theorem shape_none (c : Int) (hc : c < 1 ∨ 256 < c) (w : World) : Calls Tryd.prog 13 #[.int .i64 c] w fun e w' => e = .returned (.tuple #[.int .i64 0, .int .i64 0]) ∧ w' = w := by
  by_cases h1 : c < 1
  · have h1b : decide (c < 1) = true := decide_eq_true h1
    go_enter Tryd.func13, Tryd.ntmps13
    go_wp2_with fail
    go_ret2
    exact ⟨rfl, rfl⟩
  · have h2 : (256 : Int) < c := by omega
    have h1b : decide (c < 1) = false := decide_eq_false h1
    have h2b : decide ((256 : Int) < c) = true := decide_eq_true h2
    go_enter Tryd.func13, Tryd.ntmps13
    go_wp2_with fail
    go_ret2
    exact ⟨rfl, rfl⟩
theorem map_none (p : Option Addr) (c : Int) (hc : c < 1 ∨ 256 < c) (w : World) : Calls Tryd.prog 14 #[.pointer p, .int .i64 c] w fun e w' => e = .returned (.slice none 0 0) ∧ Below w.heap.size w w' := by
  go_enter Tryd.func14, Tryd.ntmps14
  go_wp2_with fail
  refine (shape_none c hc _).mono ?_
  rintro e w' ⟨rfl, rfl⟩
  go_wp2_with fail
  exact bodyPost_ret (v := .slice none 0 0) (by simp [results, Tryd.results14, go_sem]) rfl ⟨rfl, ((Below.refl _ _).alloc (Nat.le_refl _) _).alloc (by simp) _⟩
/-- a node's cell -/
def cellOf (ex ey : Option (Int × Int)) (R C : Int) (xy : Int × Int) : Int :=
  partV (ey.getD (0, 0)).1 (ey.getD (0, 0)).2 R xy.2 * C + partV (ex.getD (0, 0)).1 (ex.getD (0, 0)).2 C xy.1
def mapV (N : Nat) (f : Nat → Int × Int) (R C : Nat) : List Int :=
  (List.finRange N).map fun (k : Fin N) => cellOf (endsV ((List.finRange N).map fun (k : Fin N) => (f k).1)) (endsV ((List.finRange N).map fun (k : Fin N) => (f k).2)) R C (f k)
set_option maxRecDepth 100000 in
set_option maxHeartbeats 8000000 in
theorem map_of (m : Nat) (hm : 5 ≤ m) (p : Option Addr) (c : Nat) (hc : 1 ≤ c ∧ c ≤ 256) (w : World) (N : Nat) (f : Nat → Int × Int) (hP : PlacesOf w w.heap.size p N f) (hN : N ≤ 1000000) (hf : ∀ k, k < N → (-2147483648 ≤ (f k).1 ∧ (f k).1 ≤ 2147483647) ∧ (-2147483648 ≤ (f k).2 ∧ (f k).2 ≤ 2147483647)) :
    CallsIn Fence.wide m Tryd.prog 14 #[.pointer p, .int .i64 (c : Nat)] w fun e W' => ∃ v R C, ShapeOf c R C ∧ e = .returned v ∧ W'.ownsRow w.heap.size 3 1 v (mapV N f R C).length ((mapV N f R C).flatMap inC) ∧ Below w.heap.size w W' := by
  have h1 : 1 ≤ m := by omega
  obtain ⟨i0, hi, hz0, hz1, hz2⟩ := info_parts infoInt
  have HP := Lib.hid hP; have HF := Lib.hid hf; have HI := Lib.hid (And.intro hi (And.intro hz0 (And.intro hz1 hz2)))
  clear hP hf hi hz0 hz1 hz2
  refine callsIn_of_wp_marks Tryd.func14 rfl trivial ?_ rfl
  simp only [Tryd.ntmps14, List.size_toArray, List.length_cons, List.length_nil, Nat.reduceAdd, Nat.reduceSub, Array.replicate_succ, Array.replicate_zero, List.push_toArray, List.append_toArray, List.nil_append, List.cons_append]
  obtain ⟨B4, hB4⟩ : ∃ b, b = w.heap.size := ⟨_, rfl⟩
  obtain ⟨wa, hwa⟩ : ∃ u, u = w.alloc (.cells #[.slice none 0 0] 35) := ⟨_, rfl⟩
  have hba : Below w.heap.size w wa := by rw [hwa]; exact (Below.refl _ _).alloc (Nat.le_refl _) _
  have K4 : Blk wa B4 #[.slice none 0 0] 35 (0, 0) := by rw [hwa, hB4]; exact Blk.new _ _ _ _
  have HWa := Lib.hid hwa; have HBa := Lib.hid hba; have HK4 := Lib.hid K4; have HE4 := Lib.hid hB4
  clear hwa hba K4
  gi_wp2_with (rw [← HWa.out]; refine ⟨trivial, ?_⟩; gi_at_call 13; refine (callsIn_wide.2 (shape_any c hc wa)).mono ?_; rintro e w1 ⟨R, C, rfl, hS, hb1⟩; have HS := Lib.hid hS; have HB1 := Lib.hid hb1; have hR0 : ((R : Int) == 0) = false := (by have := hS.pos; simp; omega); clear hS hb1)
  obtain ⟨B6, hB6⟩ : ∃ b, b = w1.heap.size := ⟨_, rfl⟩
  obtain ⟨B7, hB7⟩ : ∃ b, b = w1.heap.size + 1 := ⟨_, rfl⟩
  obtain ⟨B8, hB8⟩ : ∃ b, b = w1.heap.size + 1 + 1 := ⟨_, rfl⟩
  obtain ⟨w2, hw2⟩ : ∃ u, u = ((w1.alloc (.cells #[.int .i64 (C : Nat)] 3)).alloc (.cells #[.int .i64 0, .int .i64 0, .bool false] 71)).alloc (.cells #[.int .i64 0, .int .i64 0, .bool false] 71) := ⟨_, rfl⟩
  have hb2 : Below w1.heap.size w1 w2 := by rw [hw2]; exact (((Below.refl _ _).alloc (Nat.le_refl _) _).alloc (by simp) _).alloc (by simp; omega) _
  have hz2 : w2.heap.size = B8 + 1 := by rw [hw2, hB8]; simp
  have K6 : Blk w2 B6 #[.int .i64 (C : Nat)] 3 (0, 0) := by rw [hw2, hB6]; exact ((Blk.new _ _ _ _).alloc _).alloc _
  have K7 : Blk w2 B7 #[.int .i64 0, .int .i64 0, .bool false] 71 (0, 0) := by
    rw [hw2, hB7]
    have h := (Blk.new (w1.alloc (.cells #[.int .i64 (C : Nat)] 3)) #[.int .i64 0, .int .i64 0, .bool false] 71 (0, 0)).alloc (.cells #[.int .i64 0, .int .i64 0, .bool false] 71)
    rwa [World.size_alloc] at h
  have K8 : Blk w2 B8 #[.int .i64 0, .int .i64 0, .bool false] 71 (0, 0) := by
    rw [hw2, hB8]
    have h := Blk.new ((w1.alloc (.cells #[.int .i64 (C : Nat)] 3)).alloc (.cells #[.int .i64 0, .int .i64 0, .bool false] 71)) #[.int .i64 0, .int .i64 0, .bool false] 71 (0, 0)
    rwa [World.size_alloc, World.size_alloc] at h
  have hwa2 : Below wa.heap.size wa w2 := HB1.out.next' hb2
  have K4 := HK4.out.below hwa2 HK4.out.lt
  have hw02 : Below w.heap.size w w2 := HBa.out.next' hwa2
  have hlo : w.heap.size ≤ B4 ∧ B4 < wa.heap.size ∧ wa.heap.size ≤ B6 ∧ B6 < B7 ∧ B7 < B8 := ⟨by have := HE4.out; omega, HK4.out.lt, by have := HB1.out.size; omega, by omega, by omega⟩
  have HW2 := Lib.hid hw2; have HK := Lib.hid (And.intro K4 (And.intro K6 (And.intro K7 K8))); have HW02 := Lib.hid hw02; have HL := Lib.hid hlo; have HZ2 := Lib.hid hz2
  have HE6 := Lib.hid hB6; have HE7 := Lib.hid hB7; have HE8 := Lib.hid hB8
  clear hw2 hb2 hz2 K6 K7 K8 K4 hwa2 hw02 hlo HWa HBa HB1 HK4
  rw [← HW2.out, ← HE4.out, ← HE8.out, ← HE7.out, ← HE6.out]
  clear hB4 hB6 hB7 hB8 HE4 HE6 HE7 HE8
  refine ⟨trivial, ?_⟩
  refine (places_in (m - 1) p w2).mono ?_
  rintro e W0 ⟨rfl, hW0⟩
  rw [HZ2.out]
  have hz0 : W0.heap.size = B8 + 1 + 1 := by rw [hW0]; simp [HZ2.out]
  have hb0 : Below w2.heap.size w2 W0 := by rw [hW0]; exact (Below.refl _ _).alloc (Nat.le_refl _) _
  have Kn : Blk W0 (B8 + 1) #[.pointer p] 28 (0, 0) := by have h := Blk.new w2 #[.pointer p] 28 (0, 0); rw [HZ2.out] at h; rw [hW0]; exact h
  have hlo := HL.out
  have K4 := HK.out.1.below hb0 HK.out.1.lt
  have K6 := HK.out.2.1.below hb0 HK.out.2.1.lt
  have K7 := HK.out.2.2.1.below hb0 HK.out.2.2.1.lt
  have K8 := HK.out.2.2.2.below hb0 HK.out.2.2.2.lt
  have hw0 : Below w.heap.size w W0 := HW02.out.next' hb0
  have hst := places_stops (m - 1) (by omega) (B8 + 1) w.heap.size w p N f HP.out W0 hw0 hw0.size Kn
  clear hW0
  gi_wp2_with fail
  refine wpIn_rangeFunc_ownG (F := Fence.wide) rfl h1 (gf := 47) (lb := #[.pointer (some ⟨B8 + 1, 0, none⟩)]) rfl trivial (enters_of Tryd.func47 (by kernel_rfl) rfl)
    hst KpB.trans (KpB.put hw0.size (by omega)) (Below.refl _ _) (fun _ => rfl)
    (fun pre W => (Blk W B7 (endsC (endsV (pre.map fun (k : Fin N) => (f k).1))) 71 (0, 0) ∧ Blk W B8 (endsC (endsV (pre.map fun (k : Fin N) => (f k).2))) 71 (0, 0)) ∧ Kept (fun k => k = B7 ∨ k = B8) W0 W)
    (fun _ _ _ => False)
    (OwnFrom.and (Own.from (Own.and' (blk_own _ _ _ _) (blk_own _ _ _ _)) _) (ownFrom_kept (Nat.le_refl _)))
    (fun _ _ _ _ _ hs _ _ => hs)
    ⟨⟨K7, K8⟩, Kept.refl _ _⟩
    ?a1 ?assign ?body ?done ?stop
  case assign =>
    intro l x W K hK
    dsimp only [encI2]
    gi_wp2
    exact hK
  case body =>
    rintro l pre x W ⟨⟨k7, k8⟩, hKW⟩ hlt
    obtain ⟨⟨px, py⟩, hxy⟩ : ∃ q, q = f x := ⟨_, rfl⟩
    have e1 : withE (endsV (pre.map fun (k : Fin N) => (f k).1)) px = endsV ((pre ++ [x]).map fun (k : Fin N) => (f k).1) := by rw [List.map_append, List.map_cons, List.map_nil, ← hxy, ends_snoc]
    have e2 : withE (endsV (pre.map fun (k : Fin N) => (f k).2)) py = endsV ((pre ++ [x]).map fun (k : Fin N) => (f k).2) := by rw [List.map_append, List.map_cons, List.map_nil, ← hxy, ends_snoc]
    have c1 := fun u => with_any (endsV (pre.map fun (k : Fin N) => (f k).1)) px u
    have c2 := fun u => with_any (endsV (pre.map fun (k : Fin N) => (f k).2)) py u
    rw [e1] at c1; rw [e2] at c2
    obtain ⟨a0, b0, q0, ha⟩ := endsC_form (endsV (pre.map fun (k : Fin N) => (f k).1))
    obtain ⟨c0, d0, r0, hc⟩ := endsC_form (endsV (pre.map fun (k : Fin N) => (f k).2))
    obtain ⟨a3, b3, q3, ha3⟩ := endsC_form (endsV ((pre ++ [x]).map fun (k : Fin N) => (f k).1))
    obtain ⟨c3, d3, r3, hc3⟩ := endsC_form (endsV ((pre ++ [x]).map fun (k : Fin N) => (f k).2))
    rw [ha] at k7 c1; rw [hc] at k8 c2; rw [ha3] at c1; rw [hc3] at c2
    have HC1 := Lib.hid c1; have HC2 := Lib.hid c2; have H3 := Lib.hid (And.intro ha3 hc3)
    have H7 := Lib.hid k7; have H8 := Lib.hid k8; have HKW := Lib.hid hKW
    have h78 : B7 ≠ B8 := by omega
    have HZ := Lib.hid (And.intro hz0 (And.intro hlo hw0.size))
    rw [← hxy]
    dsimp only
    clear e1 e2 c1 c2 ha hc ha3 hc3 k7 k8 hKW hxy hst K4 K6 K7 K8 Kn hb0 hw0 hz0 hlo
    gi_wp2_with fail
    have HSS := Lib.hid (show ∀ u, Below W.heap.size W u → (u.cell? ⟨B7, 0, none⟩ = some (.int .i64 a0) ∧ u.cell? ⟨B7, 1, none⟩ = some (.int .i64 b0) ∧ u.cell? ⟨B7, 2, none⟩ = some (.bool q0) ∧ u.cell? ⟨B8, 0, none⟩ = some (.int .i64 c0) ∧ u.cell? ⟨B8, 1, none⟩ = some (.int .i64 d0) ∧ u.cell? ⟨B8, 2, none⟩ = some (.bool r0)) from fun u hu => ⟨(H7.out.below hu H7.out.lt).cell 0, (H7.out.below hu H7.out.lt).cell 1, (H7.out.below hu H7.out.lt).cell 2, (H8.out.below hu H8.out.lt).cell 0, (H8.out.below hu H8.out.lt).cell 1, (H8.out.below hu H8.out.lt).cell 2⟩)
    refine round_region_heldD (fun w' => w'.cell? ⟨B7, 0, none⟩ = some (.int .i64 a0) ∧ w'.cell? ⟨B7, 1, none⟩ = some (.int .i64 b0) ∧ w'.cell? ⟨B7, 2, none⟩ = some (.bool q0) ∧ w'.cell? ⟨B8, 0, none⟩ = some (.int .i64 c0) ∧ w'.cell? ⟨B8, 1, none⟩ = some (.int .i64 d0) ∧ w'.cell? ⟨B8, 2, none⟩ = some (.bool r0)) 6 rfl (by kernel_rfl) ?_
    change heldD _ _ _ _ _ _ _ 8 _ _ W.drew
    obtain ⟨wk0, hu0⟩ : ∃ u, u = W.drew := ⟨_, rfl⟩
    have HBu := Lib.hid (show Below W.heap.size W wk0 by rw [hu0]; exact (Below.refl _ _).drew)
    rw [← hu0]
    clear hu0
    refine heldD_take (i := 0) (v := .agg #[.int .i64 a0, .int .i64 b0, .bool q0]) rfl rfl rfl (by kernel_rfl) (by kernel_rfl) (by kernel_rfl) (by kernel_rfl) (by kernel_rfl) (by kernel_rfl) (fun _ _ _ h => h) (by rfl) (fun w hS => ⟨by rfl, by obtain ⟨hS1, hS2, hS3, hS4, hS5, hS6⟩ := hS; go_simp⟩) (HSS.out _ HBu.out) ?_
    simp only [List.setIfInBounds_toArray, List.set_cons_zero, List.set_cons_succ]
    refine heldD_takeF (i := 1) (v := .int .i64 px) rfl rfl rfl (by kernel_rfl) (by kernel_rfl) (by kernel_rfl) (by kernel_rfl) (fun _ _ _ h => h) (by rfl) (fun w => ⟨by rfl, by go_simp⟩) (fun _ => HSS.out _ HBu.out) ?_
    simp only [List.setIfInBounds_toArray, List.set_cons_zero, List.set_cons_succ]
    refine heldD_takeC (i := 3) (v := .agg #[.int .i64 c0, .int .i64 d0, .bool r0]) [5, 6] rfl rfl rfl (by kernel_rfl) (by kernel_rfl) (by kernel_rfl) (by kernel_rfl) (by kernel_rfl) (by kernel_rfl) (fun _ _ _ h => h) (by rfl) (fun w hS => ⟨by rfl, by obtain ⟨hS1, hS2, hS3, hS4, hS5, hS6⟩ := hS; go_simp⟩) (HSS.out _ HBu.out) ?_
    simp only [List.setIfInBounds_toArray, List.set_cons_zero, List.set_cons_succ]
    refine heldD_takeF (i := 4) (v := .int .i64 py) rfl rfl rfl (by kernel_rfl) (by kernel_rfl) (by kernel_rfl) (by kernel_rfl) (fun _ _ _ h => h) (by rfl) (fun w => ⟨by rfl, by go_simp⟩) (fun _ => HSS.out _ HBu.out) ?_
    simp only [List.setIfInBounds_toArray, List.set_cons_zero, List.set_cons_succ]
    refine heldD_HT ?_
    intro H hH T hT
    have HH := Lib.hid hH; have HT := Lib.hid hT
    clear hH hT
    suffices st_2_5 : ∀ (u : World), Hid (Below W.heap.size W u) → Hid True → Hid True → H 2 #[true, true, true, true, true, true, false, false] { tmps := ((T.setIfInBounds 28 (.agg #[.int .i64 a3, .int .i64 b3, .bool q3])).setIfInBounds 31 (.agg #[.int .i64 c3, .int .i64 d3, .bool r3])), defers := [] } u from by
      have st_2 : ∀ (u : World), Hid (Below W.heap.size W u) → Hid True → H 3 #[true, true, true, true, true, false, false, false] { tmps := (T.setIfInBounds 28 (.agg #[.int .i64 a3, .int .i64 b3, .bool q3])), defers := [] } u := by
        clear HBu
        intro u HBu HF2
        rw [HH.out, HT.out]
        simp only [List.setIfInBounds_toArray, List.set_cons_zero, List.set_cons_succ]
        refine heldD_one (i := 5) (by kernel_rfl) ?_
        refine wpOpIn_calls' (f := 33) (args := #[.agg #[.int .i64 c0, .int .i64 d0, .bool r0], .int .i64 py]) rfl rfl (by rfl) (by go_simp) (HC2.out u) ?_
        rintro e u2 ⟨rfl, hb⟩
        refine ⟨_, rfl, ?_⟩
        have hf : True := trivial
        have HBu0 := HBu
        have HBu : Hid (Below W.heap.size W u2) := Lib.hid (HBu0.out.trans (hb.mono HBu0.out.size))
        refine ⟨fun _ => HSS.out _ HBu.out, ?_⟩
        simp only [List.setIfInBounds_toArray, List.set_cons_zero, List.set_cons_succ]
        have q := st_2_5 _ HBu (Lib.hid (HF2.out)) (Lib.hid hf)
        rw [HH.out, HT.out] at q
        simp only [List.setIfInBounds_toArray, List.set_cons_zero, List.set_cons_succ] at q ⊢
        exact q
      have st_ : ∀ (u : World), Hid (Below W.heap.size W u) → H 4 #[true, true, false, true, true, false, false, false] { tmps := T, defers := [] } u := by
        clear HBu
        intro u HBu
        rw [HH.out, HT.out]
        refine heldD_one (i := 2) (by kernel_rfl) ?_
        refine wpOpIn_calls' (f := 33) (args := #[.agg #[.int .i64 a0, .int .i64 b0, .bool q0], .int .i64 px]) rfl rfl (by rfl) (by go_simp) (HC1.out u) ?_
        rintro e u2 ⟨rfl, hb⟩
        refine ⟨_, rfl, ?_⟩
        have hf : True := trivial
        have HBu0 := HBu
        have HBu : Hid (Below W.heap.size W u2) := Lib.hid (HBu0.out.trans (hb.mono HBu0.out.size))
        refine ⟨fun _ => HSS.out _ HBu.out, ?_⟩
        simp only [List.setIfInBounds_toArray, List.set_cons_zero, List.set_cons_succ]
        have q := st_2 _ HBu (Lib.hid hf)
        rw [HH.out, HT.out] at q
        simp only [List.setIfInBounds_toArray, List.set_cons_zero, List.set_cons_succ] at q ⊢
        exact q
      exact st_ wk0 HBu
    clear HBu
    intro u HBu HF2 HF5
    rw [HH.out, HT.out]
    simp only [List.setIfInBounds_toArray, List.set_cons_zero, List.set_cons_succ]
    clear HH HT
    have k7 := H7.out.below HBu.out H7.out.lt
    have k8 := H8.out.below HBu.out H8.out.lt
    have m0 := k7.cell 0; have m1 := k7.cell 1; have m2 := k7.cell 2; have n0 := k8.cell 0; have n1 := k8.cell 1; have n2 := k8.cell 2
    simp only [List.getElem?_toArray, List.getElem?_cons_succ, List.getElem?_cons_zero] at m0 m1 m2 n0 n1 n2
    have fr := fun i => k7.free i (Or.inr (Nat.zero_le _))
    have gr := fun i => k8.free i (Or.inr (Nat.zero_le _))
    have f0 := fr 0; have f1 := fr 1; have f2 := fr 2; have g0 := gr 0; have g1 := gr 1; have g2 := gr 2
    have h87 : ¬ B8 = B7 := fun e => h78 e.symm
    have z7 : Blk (((u.setCell ⟨B7, 0, none⟩ (.int .i64 a3)).setCell ⟨B7, 1, none⟩ (.int .i64 b3)).setCell ⟨B7, 2, none⟩ (.bool q3)) B7 #[.int .i64 a3, .int .i64 b3, .bool q3] 71 (0, 0) := ((k7.set 0 _).set 1 _).set 2 _
    have y8 : Blk (((u.setCell ⟨B7, 0, none⟩ (.int .i64 a3)).setCell ⟨B7, 1, none⟩ (.int .i64 b3)).setCell ⟨B7, 2, none⟩ (.bool q3)) B8 #[.int .i64 c0, .int .i64 d0, .bool r0] 71 (0, 0) := ((k8.setOther _ _ h87).setOther _ _ h87).setOther _ _ h87
    have z8 : Blk ((((((u.setCell ⟨B7, 0, none⟩ (.int .i64 a3)).setCell ⟨B7, 1, none⟩ (.int .i64 b3)).setCell ⟨B7, 2, none⟩ (.bool q3)).setCell ⟨B8, 0, none⟩ (.int .i64 c3)).setCell ⟨B8, 1, none⟩ (.int .i64 d3)).setCell ⟨B8, 2, none⟩ (.bool r3)) B8 #[.int .i64 c3, .int .i64 d3, .bool r3] 71 (0, 0) := ((y8.set 0 _).set 1 _).set 2 _
    have y7 : Blk ((((((u.setCell ⟨B7, 0, none⟩ (.int .i64 a3)).setCell ⟨B7, 1, none⟩ (.int .i64 b3)).setCell ⟨B7, 2, none⟩ (.bool q3)).setCell ⟨B8, 0, none⟩ (.int .i64 c3)).setCell ⟨B8, 1, none⟩ (.int .i64 d3)).setCell ⟨B8, 2, none⟩ (.bool r3)) B7 #[.int .i64 a3, .int .i64 b3, .bool q3] 71 (0, 0) := ((z7.setOther _ _ h78).setOther _ _ h78).setOther _ _ h78
    have kz : Kept (fun k => k = B7 ∨ k = B8) W ((((((u.setCell ⟨B7, 0, none⟩ (.int .i64 a3)).setCell ⟨B7, 1, none⟩ (.int .i64 b3)).setCell ⟨B7, 2, none⟩ (.bool q3)).setCell ⟨B8, 0, none⟩ (.int .i64 c3)).setCell ⟨B8, 1, none⟩ (.int .i64 d3)).setCell ⟨B8, 2, none⟩ (.bool r3)) := ((((((Kept.of_below HBu.out).setCell (p := ⟨B7, 0, none⟩) (Or.inl rfl) _).setCell (p := ⟨B7, 1, none⟩) (Or.inl rfl) _).setCell (p := ⟨B7, 2, none⟩) (Or.inl rfl) _).setCell (p := ⟨B8, 0, none⟩) (Or.inr rfl) _).setCell (p := ⟨B8, 1, none⟩) (Or.inr rfl) _).setCell (p := ⟨B8, 2, none⟩) (Or.inr rfl) _
    have HZ7 := Lib.hid (And.intro y7 (And.intro z8 kz))
    clear k7 k8 fr gr z7 y8 z8 y7 kz
    refine heldD_one (i := 6) (by kernel_rfl) ?_
    refine wpOpIn_skip (w' := ((u.setCell ⟨B7, 0, none⟩ (.int .i64 a3)).setCell ⟨B7, 1, none⟩ (.int .i64 b3)).setCell ⟨B7, 2, none⟩ (.bool q3)) rfl rfl rfl (by rfl) (by rfl) (by go_simp) ?_
    refine ⟨fun h => (by cases h), ?_⟩
    refine heldD_one (i := 7) (by kernel_rfl) ?_
    refine wpOpIn_skip (w' := (((((u.setCell ⟨B7, 0, none⟩ (.int .i64 a3)).setCell ⟨B7, 1, none⟩ (.int .i64 b3)).setCell ⟨B7, 2, none⟩ (.bool q3)).setCell ⟨B8, 0, none⟩ (.int .i64 c3)).setCell ⟨B8, 1, none⟩ (.int .i64 d3)).setCell ⟨B8, 2, none⟩ (.bool r3)) rfl rfl rfl (by rfl) (by rfl) (by go_simp) ?_
    refine ⟨fun h => (by cases h), ?_⟩
    refine heldD_done (by kernel_rfl) ?_ _
    have hsz := HKW.out.size
    have hrk := round_kept (B := W0.heap.size) (lo := w.heap.size) (Bn := B8 + 1) HZ7.out.2.2 (fun k hk => by have := HZ.out; omega) (by have := HZ.out; omega) (by have := HZ.out; omega)
    refine ⟨hrk.1, hrk.2, ⟨?_, ?_⟩, HKW.out.trans HZ7.out.2.2⟩
    · rw [H3.out.1]; exact HZ7.out.1
    · rw [H3.out.2]; exact HZ7.out.2.1
  case stop =>
    rintro D c pre W _ _ h _
    exact h.elim
  case done =>
    rintro D xs W hD rfl ⟨⟨k7, k8⟩, hKW⟩ hKD
    obtain ⟨ex, hex⟩ : ∃ q, q = endsV ((List.finRange N).map fun (k : Fin N) => (f k).1) := ⟨_, rfl⟩
    obtain ⟨ey, hey⟩ : ∃ q, q = endsV ((List.finRange N).map fun (k : Fin N) => (f k).2) := ⟨_, rfl⟩
    have hbx : ∀ (k : Fin N), (-2147483648 ≤ (ex.getD (0, 0)).1 ∧ (ex.getD (0, 0)).1 ≤ (f k).1 ∧ (f k).1 ≤ (ex.getD (0, 0)).2 ∧ (ex.getD (0, 0)).2 ≤ 2147483647) := fun k => by
      have h := ends_in (L := (List.finRange N).map fun (k : Fin N) => (f k).1) (x := (f k).1) (List.mem_map.2 ⟨k, List.mem_finRange k, rfl⟩)
      rw [← hex] at h
      obtain ⟨h1, h2, h3, h4⟩ := h
      obtain ⟨i, _, e3⟩ := List.mem_map.1 h3
      obtain ⟨j, _, e4⟩ := List.mem_map.1 h4
      have g1 := (HF.out i i.2).1; have g2 := (HF.out j j.2).1
      omega
    have hby : ∀ (k : Fin N), (-2147483648 ≤ (ey.getD (0, 0)).1 ∧ (ey.getD (0, 0)).1 ≤ (f k).2 ∧ (f k).2 ≤ (ey.getD (0, 0)).2 ∧ (ey.getD (0, 0)).2 ≤ 2147483647) := fun k => by
      have h := ends_in (L := (List.finRange N).map fun (k : Fin N) => (f k).2) (x := (f k).2) (List.mem_map.2 ⟨k, List.mem_finRange k, rfl⟩)
      rw [← hey] at h
      obtain ⟨h1, h2, h3, h4⟩ := h
      obtain ⟨i, _, e3⟩ := List.mem_map.1 h3
      obtain ⟨j, _, e4⟩ := List.mem_map.1 h4
      have g1 := (HF.out i i.2).2; have g2 := (HF.out j j.2).2
      omega
    have hnx : -2147483648 ≤ (ex.getD (0, 0)).1 ∧ (ex.getD (0, 0)).1 ≤ (ex.getD (0, 0)).2 ∧ (ex.getD (0, 0)).2 ≤ 2147483647 := by
      by_cases h : 0 < N
      · have := hbx ⟨0, h⟩; omega
      · obtain rfl : N = 0 := by omega
        rw [hex]; simp [endsV]
    have hny : -2147483648 ≤ (ey.getD (0, 0)).1 ∧ (ey.getD (0, 0)).1 ≤ (ey.getD (0, 0)).2 ∧ (ey.getD (0, 0)).2 ≤ 2147483647 := by
      by_cases h : 0 < N
      · have := hby ⟨0, h⟩; omega
      · obtain rfl : N = 0 := by omega
        rw [hey]; simp [endsV]
    rw [← hex] at k7; rw [← hey] at k8
    obtain ⟨qx, hqx⟩ := endsC_get ex
    obtain ⟨qy, hqy⟩ := endsC_get ey
    rw [hqx] at k7; rw [hqy] at k8
    have hmv : mapV N f R C = (List.finRange N).map fun (k : Fin N) => cellOf ex ey R C (f k) := by unfold mapV; rw [hex, hey]
    have HMv := Lib.hid hmv
    have hcv : ∀ k : Fin N, cellOf ex ey R C (f k) = partV (ey.getD (0, 0)).1 (ey.getD (0, 0)).2 R (f k).2 * C + partV (ex.getD (0, 0)).1 (ex.getD (0, 0)).2 C (f k).1 := fun k => rfl
    generalize (ex.getD (0, 0)).1 = ax at *
    generalize (ex.getD (0, 0)).2 = bx at *
    generalize (ey.getD (0, 0)).1 = ay at *
    generalize (ey.getD (0, 0)).2 = by_ at *
    have hS := HS.out.facts
    have hSp := HS.out.pos
    have hRC : R ≤ 256 ∧ C ≤ 256 := by
      refine ⟨Nat.le_trans (Nat.le_mul_of_pos_right R (by omega)) (Nat.le_trans hS.1 hc.2), Nat.le_trans (Nat.le_mul_of_pos_left C (by omega)) (Nat.le_trans hS.1 hc.2)⟩
    have hkb : Below w.heap.size W0 W := hKW.below hw0.size (fun k e => by omega)
    have hwW : Below w.heap.size w W := hw0.trans hkb
    have K4W := hKW.blk K4 (by omega)
    have K6W := hKW.blk K6 (by omega)
    have HX := Lib.hid (And.intro hbx hby); have HNx := Lib.hid hnx; have HNy := Lib.hid hny; have H7 := Lib.hid k7; have H8 := Lib.hid k8; have H4 := Lib.hid K4W; have H6 := Lib.hid K6W; have HKD := Lib.hid hKD; have HWW := Lib.hid hwW
    have HZ := Lib.hid (And.intro hz0 (And.intro hlo (And.intro hKW.size hD))); have HCv := Lib.hid hcv; have HRC := Lib.hid hRC; have HSf := Lib.hid hS
    have h78 : B7 ≠ B8 := by omega
    clear hex hey hbx hby hnx hny k7 k8 hqx hqy hmv hcv hS hSp hRC hkb hwW K4W K6W hKD K4 K6 K7 K8 Kn hb0 hw0 hz0 hlo hst hKW hD
    gi_wp2_with fail
    have HSS := Lib.hid (show ∀ u, Below W.heap.size W u → (u.cell? ⟨B7, 0, none⟩ = some (.int .i64 ax) ∧ u.cell? ⟨B7, 1, none⟩ = some (.int .i64 bx) ∧ u.cell? ⟨B7, 2, none⟩ = some (.bool qx) ∧ u.cell? ⟨B8, 0, none⟩ = some (.int .i64 ay) ∧ u.cell? ⟨B8, 1, none⟩ = some (.int .i64 by_) ∧ u.cell? ⟨B8, 2, none⟩ = some (.bool qy) ∧ u.cell? ⟨B6, 0, none⟩ = some (.int .i64 (C : Nat))) from fun u hu => ⟨(H7.out.below hu H7.out.lt).cell 0, (H7.out.below hu H7.out.lt).cell 1, (H7.out.below hu H7.out.lt).cell 2, (H8.out.below hu H8.out.lt).cell 0, (H8.out.below hu H8.out.lt).cell 1, (H8.out.below hu H8.out.lt).cell 2, (H6.out.below hu H6.out.lt).cell 0⟩)
    refine region_panTo [{ target := .collected D, args := #[] }] (fun _ _ => False) (fun _ _ _ _ h => h.elim) ?_
    refine wide_region_heldD (fun w' => w'.cell? ⟨B7, 0, none⟩ = some (.int .i64 ax) ∧ w'.cell? ⟨B7, 1, none⟩ = some (.int .i64 bx) ∧ w'.cell? ⟨B7, 2, none⟩ = some (.bool qx) ∧ w'.cell? ⟨B8, 0, none⟩ = some (.int .i64 ay) ∧ w'.cell? ⟨B8, 1, none⟩ = some (.int .i64 by_) ∧ w'.cell? ⟨B8, 2, none⟩ = some (.bool qy) ∧ w'.cell? ⟨B6, 0, none⟩ = some (.int .i64 (C : Nat))) 8 rfl ?_
    change heldD _ _ _ _ _ _ _ 10 _ _ W.drew
    obtain ⟨wk0, hu0⟩ : ∃ u, u = W.drew := ⟨_, rfl⟩
    have HBu := Lib.hid (show Below W.heap.size W wk0 by rw [hu0]; exact (Below.refl _ _).drew)
    rw [← hu0]
    clear hu0
    refine heldD_take (i := 0) (v := .agg #[.int .i64 ax, .int .i64 bx, .bool qx]) rfl rfl rfl (by kernel_rfl) (by kernel_rfl) (by kernel_rfl) (by kernel_rfl) (by kernel_rfl) (by kernel_rfl) (fun _ _ _ h => h) (by rfl) (fun w hS => ⟨by rfl, by obtain ⟨hS1, hS2, hS3, hS4, hS5, hS6, hS7⟩ := hS; go_simp⟩) (HSS.out _ HBu.out) ?_
    simp only [List.setIfInBounds_toArray, List.set_cons_zero, List.set_cons_succ]
    refine heldD_take (i := 1) (v := .int .i64 (C : Nat)) rfl rfl rfl (by kernel_rfl) (by kernel_rfl) (by kernel_rfl) (by kernel_rfl) (by kernel_rfl) (by kernel_rfl) (fun _ _ _ h => h) (by rfl) (fun w hS => ⟨by rfl, by obtain ⟨hS1, hS2, hS3, hS4, hS5, hS6, hS7⟩ := hS; go_simp⟩) (HSS.out _ HBu.out) ?_
    simp only [List.setIfInBounds_toArray, List.set_cons_zero, List.set_cons_succ]
    refine heldD_takeC (i := 3) (v := .agg #[.int .i64 ay, .int .i64 by_, .bool qy]) [5, 8] rfl rfl rfl (by kernel_rfl) (by kernel_rfl) (by kernel_rfl) (by kernel_rfl) (by kernel_rfl) (by kernel_rfl) (fun _ _ _ h => h) (by rfl) (fun w hS => ⟨by rfl, by obtain ⟨hS1, hS2, hS3, hS4, hS5, hS6, hS7⟩ := hS; go_simp⟩) (HSS.out _ HBu.out) ?_
    simp only [List.setIfInBounds_toArray, List.set_cons_zero, List.set_cons_succ]
    refine heldD_takeF (i := 4) (v := .int .i64 (R : Nat)) rfl rfl rfl (by kernel_rfl) (by kernel_rfl) (by kernel_rfl) (by kernel_rfl) (fun _ _ _ h => h) (by rfl) (fun w => ⟨by rfl, by go_simp⟩) (fun _ => HSS.out _ HBu.out) ?_
    simp only [List.setIfInBounds_toArray, List.set_cons_zero, List.set_cons_succ]
    refine heldD_HT ?_
    intro H hH T hT
    have HH := Lib.hid hH; have HT := Lib.hid hT
    clear hH hT
    suffices su_2_5_6_7 : ∀ (u : World) (p1 : Nat) (p2 : Nat) (p3 : Nat) (q1 : Nat) (q2 : Nat) (q3 : Nat) (B11 : Nat) (B12 : Nat), Hid (Below W.heap.size W u) → Hid (PartsB u p1 p2 p3 ax bx (.bool qx) (C : Nat)) → Hid (PartsB u q1 q2 q3 ay by_ (.bool qy) (R : Nat)) → Hid (Blk u B11 #[.nilFunc] 76 (0, 0) ∧ W.heap.size ≤ B11) → Hid (Blk u B12 #[.nilFunc] 76 (0, 0) ∧ W.heap.size ≤ B12) → Hid (B11 ≠ B12) → H 2 #[true, true, true, true, true, true, true, true, false, false] { tmps := ((((T.setIfInBounds 34 (.func (.func 50) #[] #[.pointer (some ⟨p1, 0, none⟩), .pointer (some ⟨p2, 0, none⟩), .pointer (some ⟨p3, 0, none⟩)])).setIfInBounds 37 (.func (.func 50) #[] #[.pointer (some ⟨q1, 0, none⟩), .pointer (some ⟨q2, 0, none⟩), .pointer (some ⟨q3, 0, none⟩)])).setIfInBounds 11 (.pointer (some ⟨B11, 0, none⟩))).setIfInBounds 12 (.pointer (some ⟨B12, 0, none⟩))), defers := [{ target := .collected D, args := #[] }] } u from by
      have su_2_6_7 : ∀ (u : World) (p1 : Nat) (p2 : Nat) (p3 : Nat) (B11 : Nat) (B12 : Nat), Hid (Below W.heap.size W u) → Hid (PartsB u p1 p2 p3 ax bx (.bool qx) (C : Nat)) → Hid (Blk u B11 #[.nilFunc] 76 (0, 0) ∧ W.heap.size ≤ B11) → Hid (Blk u B12 #[.nilFunc] 76 (0, 0) ∧ W.heap.size ≤ B12) → Hid (B11 ≠ B12) → H 3 #[true, true, true, true, true, false, true, true, false, false] { tmps := (((T.setIfInBounds 34 (.func (.func 50) #[] #[.pointer (some ⟨p1, 0, none⟩), .pointer (some ⟨p2, 0, none⟩), .pointer (some ⟨p3, 0, none⟩)])).setIfInBounds 11 (.pointer (some ⟨B11, 0, none⟩))).setIfInBounds 12 (.pointer (some ⟨B12, 0, none⟩))), defers := [{ target := .collected D, args := #[] }] } u := by
        clear HBu
        intro u p1 p2 p3 B11 B12 HBu HF2 HF6 HF7 HN6_7
        rw [HH.out, HT.out]
        simp only [List.setIfInBounds_toArray, List.set_cons_zero, List.set_cons_succ]
        refine heldD_one (i := 5) (by kernel_rfl) ?_
        refine wpOpIn_calls' (f := 34) (args := #[.agg #[.int .i64 ay, .int .i64 by_, .bool qy], .int .i64 (R : Nat)]) rfl rfl (by rfl) (by go_simp) (parts_anyB ay by_ qy (R : Nat) u HNy.out) ?_
        rintro e u2 ⟨q1, q2, q3, rfl, hq, hb⟩
        refine ⟨_, rfl, ?_⟩
        have hf : (PartsB u2 q1 q2 q3 ay by_ (.bool qy) (R : Nat)) := hq
        have HBu0 := HBu
        have HBu : Hid (Below W.heap.size W u2) := Lib.hid (HBu0.out.trans (hb.mono HBu0.out.size))
        refine ⟨fun _ => HSS.out _ HBu.out, ?_⟩
        simp only [List.setIfInBounds_toArray, List.set_cons_zero, List.set_cons_succ]
        have q := su_2_5_6_7 _ p1 p2 p3 q1 q2 q3 B11 B12 HBu (Lib.hid (HF2.out.keep (KpC.of_below hb))) (Lib.hid hf) (Lib.hid (⟨HF6.out.1.below hb HF6.out.1.lt, HF6.out.2⟩)) (Lib.hid (⟨HF7.out.1.below hb HF7.out.1.lt, HF7.out.2⟩)) HN6_7
        rw [HH.out, HT.out] at q
        simp only [List.setIfInBounds_toArray, List.set_cons_zero, List.set_cons_succ] at q ⊢
        exact q
      have su_2_5_7 : ∀ (u : World) (p1 : Nat) (p2 : Nat) (p3 : Nat) (q1 : Nat) (q2 : Nat) (q3 : Nat) (B12 : Nat), Hid (Below W.heap.size W u) → Hid (PartsB u p1 p2 p3 ax bx (.bool qx) (C : Nat)) → Hid (PartsB u q1 q2 q3 ay by_ (.bool qy) (R : Nat)) → Hid (Blk u B12 #[.nilFunc] 76 (0, 0) ∧ W.heap.size ≤ B12) → H 3 #[true, true, true, true, true, true, false, true, false, false] { tmps := (((T.setIfInBounds 34 (.func (.func 50) #[] #[.pointer (some ⟨p1, 0, none⟩), .pointer (some ⟨p2, 0, none⟩), .pointer (some ⟨p3, 0, none⟩)])).setIfInBounds 37 (.func (.func 50) #[] #[.pointer (some ⟨q1, 0, none⟩), .pointer (some ⟨q2, 0, none⟩), .pointer (some ⟨q3, 0, none⟩)])).setIfInBounds 12 (.pointer (some ⟨B12, 0, none⟩))), defers := [{ target := .collected D, args := #[] }] } u := by
        clear HBu
        intro u p1 p2 p3 q1 q2 q3 B12 HBu HF2 HF5 HF7
        rw [HH.out, HT.out]
        simp only [List.setIfInBounds_toArray, List.set_cons_zero, List.set_cons_succ]
        refine heldD_one (i := 6) (by kernel_rfl) ?_
        have hb : Below u.heap.size u (u.alloc (.cells #[.nilFunc] 76)) := (Below.refl _ _).alloc (Nat.le_refl _) _
        have hf : Blk (u.alloc (.cells #[.nilFunc] 76)) u.heap.size #[.nilFunc] 76 (0, 0) ∧ W.heap.size ≤ u.heap.size := ⟨Blk.new _ _ _ _, HBu.out.size⟩
        refine wpOpIn_value (v := .pointer (some ⟨u.heap.size, 0, none⟩)) (w' := u.alloc (.cells #[.nilFunc] 76)) rfl rfl rfl (by rfl) (by rfl) (by go_simp) ?_
        have HBu0 := HBu
        have HBu : Hid (Below W.heap.size W (u.alloc (.cells #[.nilFunc] 76))) := Lib.hid (HBu0.out.trans (hb.mono HBu0.out.size))
        refine ⟨fun _ => HSS.out _ HBu.out, ?_⟩
        simp only [List.setIfInBounds_toArray, List.set_cons_zero, List.set_cons_succ]
        have q := su_2_5_6_7 _ p1 p2 p3 q1 q2 q3 u.heap.size B12 HBu (Lib.hid (HF2.out.keep (KpC.of_below hb))) (Lib.hid (HF5.out.keep (KpC.of_below hb))) (Lib.hid hf) (Lib.hid (⟨HF7.out.1.below hb HF7.out.1.lt, HF7.out.2⟩)) (Lib.hid (by have q := HF7.out.1.lt; omega))
        rw [HH.out, HT.out] at q
        simp only [List.setIfInBounds_toArray, List.set_cons_zero, List.set_cons_succ] at q ⊢
        exact q
      have su_2_5_6 : ∀ (u : World) (p1 : Nat) (p2 : Nat) (p3 : Nat) (q1 : Nat) (q2 : Nat) (q3 : Nat) (B11 : Nat), Hid (Below W.heap.size W u) → Hid (PartsB u p1 p2 p3 ax bx (.bool qx) (C : Nat)) → Hid (PartsB u q1 q2 q3 ay by_ (.bool qy) (R : Nat)) → Hid (Blk u B11 #[.nilFunc] 76 (0, 0) ∧ W.heap.size ≤ B11) → H 3 #[true, true, true, true, true, true, true, false, false, false] { tmps := (((T.setIfInBounds 34 (.func (.func 50) #[] #[.pointer (some ⟨p1, 0, none⟩), .pointer (some ⟨p2, 0, none⟩), .pointer (some ⟨p3, 0, none⟩)])).setIfInBounds 37 (.func (.func 50) #[] #[.pointer (some ⟨q1, 0, none⟩), .pointer (some ⟨q2, 0, none⟩), .pointer (some ⟨q3, 0, none⟩)])).setIfInBounds 11 (.pointer (some ⟨B11, 0, none⟩))), defers := [{ target := .collected D, args := #[] }] } u := by
        clear HBu
        intro u p1 p2 p3 q1 q2 q3 B11 HBu HF2 HF5 HF6
        rw [HH.out, HT.out]
        simp only [List.setIfInBounds_toArray, List.set_cons_zero, List.set_cons_succ]
        refine heldD_one (i := 7) (by kernel_rfl) ?_
        have hb : Below u.heap.size u (u.alloc (.cells #[.nilFunc] 76)) := (Below.refl _ _).alloc (Nat.le_refl _) _
        have hf : Blk (u.alloc (.cells #[.nilFunc] 76)) u.heap.size #[.nilFunc] 76 (0, 0) ∧ W.heap.size ≤ u.heap.size := ⟨Blk.new _ _ _ _, HBu.out.size⟩
        refine wpOpIn_value (v := .pointer (some ⟨u.heap.size, 0, none⟩)) (w' := u.alloc (.cells #[.nilFunc] 76)) rfl rfl rfl (by rfl) (by rfl) (by go_simp) ?_
        have HBu0 := HBu
        have HBu : Hid (Below W.heap.size W (u.alloc (.cells #[.nilFunc] 76))) := Lib.hid (HBu0.out.trans (hb.mono HBu0.out.size))
        refine ⟨fun _ => HSS.out _ HBu.out, ?_⟩
        simp only [List.setIfInBounds_toArray, List.set_cons_zero, List.set_cons_succ]
        have q := su_2_5_6_7 _ p1 p2 p3 q1 q2 q3 B11 u.heap.size HBu (Lib.hid (HF2.out.keep (KpC.of_below hb))) (Lib.hid (HF5.out.keep (KpC.of_below hb))) (Lib.hid (⟨HF6.out.1.below hb HF6.out.1.lt, HF6.out.2⟩)) (Lib.hid hf) (Lib.hid (by have q := HF6.out.1.lt; omega))
        rw [HH.out, HT.out] at q
        simp only [List.setIfInBounds_toArray, List.set_cons_zero, List.set_cons_succ] at q ⊢
        exact q
      have su_6_7 : ∀ (u : World) (B11 : Nat) (B12 : Nat), Hid (Below W.heap.size W u) → Hid (Blk u B11 #[.nilFunc] 76 (0, 0) ∧ W.heap.size ≤ B11) → Hid (Blk u B12 #[.nilFunc] 76 (0, 0) ∧ W.heap.size ≤ B12) → Hid (B11 ≠ B12) → H 4 #[true, true, false, true, true, false, true, true, false, false] { tmps := ((T.setIfInBounds 11 (.pointer (some ⟨B11, 0, none⟩))).setIfInBounds 12 (.pointer (some ⟨B12, 0, none⟩))), defers := [{ target := .collected D, args := #[] }] } u := by
        clear HBu
        intro u B11 B12 HBu HF6 HF7 HN6_7
        rw [HH.out, HT.out]
        simp only [List.setIfInBounds_toArray, List.set_cons_zero, List.set_cons_succ]
        refine heldD_one (i := 2) (by kernel_rfl) ?_
        refine wpOpIn_calls' (f := 34) (args := #[.agg #[.int .i64 ax, .int .i64 bx, .bool qx], .int .i64 (C : Nat)]) rfl rfl (by rfl) (by go_simp) (parts_anyB ax bx qx (C : Nat) u HNx.out) ?_
        rintro e u2 ⟨p1, p2, p3, rfl, hq, hb⟩
        refine ⟨_, rfl, ?_⟩
        have hf : (PartsB u2 p1 p2 p3 ax bx (.bool qx) (C : Nat)) := hq
        have HBu0 := HBu
        have HBu : Hid (Below W.heap.size W u2) := Lib.hid (HBu0.out.trans (hb.mono HBu0.out.size))
        refine ⟨fun _ => HSS.out _ HBu.out, ?_⟩
        simp only [List.setIfInBounds_toArray, List.set_cons_zero, List.set_cons_succ]
        have q := su_2_6_7 _ p1 p2 p3 B11 B12 HBu (Lib.hid hf) (Lib.hid (⟨HF6.out.1.below hb HF6.out.1.lt, HF6.out.2⟩)) (Lib.hid (⟨HF7.out.1.below hb HF7.out.1.lt, HF7.out.2⟩)) HN6_7
        rw [HH.out, HT.out] at q
        simp only [List.setIfInBounds_toArray, List.set_cons_zero, List.set_cons_succ] at q ⊢
        exact q
      have su_2_7 : ∀ (u : World) (p1 : Nat) (p2 : Nat) (p3 : Nat) (B12 : Nat), Hid (Below W.heap.size W u) → Hid (PartsB u p1 p2 p3 ax bx (.bool qx) (C : Nat)) → Hid (Blk u B12 #[.nilFunc] 76 (0, 0) ∧ W.heap.size ≤ B12) → H 4 #[true, true, true, true, true, false, false, true, false, false] { tmps := ((T.setIfInBounds 34 (.func (.func 50) #[] #[.pointer (some ⟨p1, 0, none⟩), .pointer (some ⟨p2, 0, none⟩), .pointer (some ⟨p3, 0, none⟩)])).setIfInBounds 12 (.pointer (some ⟨B12, 0, none⟩))), defers := [{ target := .collected D, args := #[] }] } u := by
        clear HBu
        intro u p1 p2 p3 B12 HBu HF2 HF7
        rw [HH.out, HT.out]
        simp only [List.setIfInBounds_toArray, List.set_cons_zero, List.set_cons_succ]
        refine heldD_two (i := 5) (k := 6) (by kernel_rfl) ?_ ?_
        · refine wpOpIn_calls' (f := 34) (args := #[.agg #[.int .i64 ay, .int .i64 by_, .bool qy], .int .i64 (R : Nat)]) rfl rfl (by rfl) (by go_simp) (parts_anyB ay by_ qy (R : Nat) u HNy.out) ?_
          rintro e u2 ⟨q1, q2, q3, rfl, hq, hb⟩
          refine ⟨_, rfl, ?_⟩
          have hf : (PartsB u2 q1 q2 q3 ay by_ (.bool qy) (R : Nat)) := hq
          have HBu0 := HBu
          have HBu : Hid (Below W.heap.size W u2) := Lib.hid (HBu0.out.trans (hb.mono HBu0.out.size))
          refine ⟨fun _ => HSS.out _ HBu.out, ?_⟩
          simp only [List.setIfInBounds_toArray, List.set_cons_zero, List.set_cons_succ]
          have q := su_2_5_7 _ p1 p2 p3 q1 q2 q3 B12 HBu (Lib.hid (HF2.out.keep (KpC.of_below hb))) (Lib.hid hf) (Lib.hid (⟨HF7.out.1.below hb HF7.out.1.lt, HF7.out.2⟩))
          rw [HH.out, HT.out] at q
          simp only [List.setIfInBounds_toArray, List.set_cons_zero, List.set_cons_succ] at q ⊢
          exact q
        · have hb : Below u.heap.size u (u.alloc (.cells #[.nilFunc] 76)) := (Below.refl _ _).alloc (Nat.le_refl _) _
          have hf : Blk (u.alloc (.cells #[.nilFunc] 76)) u.heap.size #[.nilFunc] 76 (0, 0) ∧ W.heap.size ≤ u.heap.size := ⟨Blk.new _ _ _ _, HBu.out.size⟩
          refine wpOpIn_value (v := .pointer (some ⟨u.heap.size, 0, none⟩)) (w' := u.alloc (.cells #[.nilFunc] 76)) rfl rfl rfl (by rfl) (by rfl) (by go_simp) ?_
          have HBu0 := HBu
          have HBu : Hid (Below W.heap.size W (u.alloc (.cells #[.nilFunc] 76))) := Lib.hid (HBu0.out.trans (hb.mono HBu0.out.size))
          refine ⟨fun _ => HSS.out _ HBu.out, ?_⟩
          simp only [List.setIfInBounds_toArray, List.set_cons_zero, List.set_cons_succ]
          have q := su_2_6_7 _ p1 p2 p3 u.heap.size B12 HBu (Lib.hid (HF2.out.keep (KpC.of_below hb))) (Lib.hid hf) (Lib.hid (⟨HF7.out.1.below hb HF7.out.1.lt, HF7.out.2⟩)) (Lib.hid (by have q := HF7.out.1.lt; omega))
          rw [HH.out, HT.out] at q
          simp only [List.setIfInBounds_toArray, List.set_cons_zero, List.set_cons_succ] at q ⊢
          exact q
      have su_2_6 : ∀ (u : World) (p1 : Nat) (p2 : Nat) (p3 : Nat) (B11 : Nat), Hid (Below W.heap.size W u) → Hid (PartsB u p1 p2 p3 ax bx (.bool qx) (C : Nat)) → Hid (Blk u B11 #[.nilFunc] 76 (0, 0) ∧ W.heap.size ≤ B11) → H 4 #[true, true, true, true, true, false, true, false, false, false] { tmps := ((T.setIfInBounds 34 (.func (.func 50) #[] #[.pointer (some ⟨p1, 0, none⟩), .pointer (some ⟨p2, 0, none⟩), .pointer (some ⟨p3, 0, none⟩)])).setIfInBounds 11 (.pointer (some ⟨B11, 0, none⟩))), defers := [{ target := .collected D, args := #[] }] } u := by
        clear HBu
        intro u p1 p2 p3 B11 HBu HF2 HF6
        rw [HH.out, HT.out]
        simp only [List.setIfInBounds_toArray, List.set_cons_zero, List.set_cons_succ]
        refine heldD_two (i := 5) (k := 7) (by kernel_rfl) ?_ ?_
        · refine wpOpIn_calls' (f := 34) (args := #[.agg #[.int .i64 ay, .int .i64 by_, .bool qy], .int .i64 (R : Nat)]) rfl rfl (by rfl) (by go_simp) (parts_anyB ay by_ qy (R : Nat) u HNy.out) ?_
          rintro e u2 ⟨q1, q2, q3, rfl, hq, hb⟩
          refine ⟨_, rfl, ?_⟩
          have hf : (PartsB u2 q1 q2 q3 ay by_ (.bool qy) (R : Nat)) := hq
          have HBu0 := HBu
          have HBu : Hid (Below W.heap.size W u2) := Lib.hid (HBu0.out.trans (hb.mono HBu0.out.size))
          refine ⟨fun _ => HSS.out _ HBu.out, ?_⟩
          simp only [List.setIfInBounds_toArray, List.set_cons_zero, List.set_cons_succ]
          have q := su_2_5_6 _ p1 p2 p3 q1 q2 q3 B11 HBu (Lib.hid (HF2.out.keep (KpC.of_below hb))) (Lib.hid hf) (Lib.hid (⟨HF6.out.1.below hb HF6.out.1.lt, HF6.out.2⟩))
          rw [HH.out, HT.out] at q
          simp only [List.setIfInBounds_toArray, List.set_cons_zero, List.set_cons_succ] at q ⊢
          exact q
        · have hb : Below u.heap.size u (u.alloc (.cells #[.nilFunc] 76)) := (Below.refl _ _).alloc (Nat.le_refl _) _
          have hf : Blk (u.alloc (.cells #[.nilFunc] 76)) u.heap.size #[.nilFunc] 76 (0, 0) ∧ W.heap.size ≤ u.heap.size := ⟨Blk.new _ _ _ _, HBu.out.size⟩
          refine wpOpIn_value (v := .pointer (some ⟨u.heap.size, 0, none⟩)) (w' := u.alloc (.cells #[.nilFunc] 76)) rfl rfl rfl (by rfl) (by rfl) (by go_simp) ?_
          have HBu0 := HBu
          have HBu : Hid (Below W.heap.size W (u.alloc (.cells #[.nilFunc] 76))) := Lib.hid (HBu0.out.trans (hb.mono HBu0.out.size))
          refine ⟨fun _ => HSS.out _ HBu.out, ?_⟩
          simp only [List.setIfInBounds_toArray, List.set_cons_zero, List.set_cons_succ]
          have q := su_2_6_7 _ p1 p2 p3 B11 u.heap.size HBu (Lib.hid (HF2.out.keep (KpC.of_below hb))) (Lib.hid (⟨HF6.out.1.below hb HF6.out.1.lt, HF6.out.2⟩)) (Lib.hid hf) (Lib.hid (by have q := HF6.out.1.lt; omega))
          rw [HH.out, HT.out] at q
          simp only [List.setIfInBounds_toArray, List.set_cons_zero, List.set_cons_succ] at q ⊢
          exact q
      have su_2_5 : ∀ (u : World) (p1 : Nat) (p2 : Nat) (p3 : Nat) (q1 : Nat) (q2 : Nat) (q3 : Nat), Hid (Below W.heap.size W u) → Hid (PartsB u p1 p2 p3 ax bx (.bool qx) (C : Nat)) → Hid (PartsB u q1 q2 q3 ay by_ (.bool qy) (R : Nat)) → H 4 #[true, true, true, true, true, true, false, false, false, false] { tmps := ((T.setIfInBounds 34 (.func (.func 50) #[] #[.pointer (some ⟨p1, 0, none⟩), .pointer (some ⟨p2, 0, none⟩), .pointer (some ⟨p3, 0, none⟩)])).setIfInBounds 37 (.func (.func 50) #[] #[.pointer (some ⟨q1, 0, none⟩), .pointer (some ⟨q2, 0, none⟩), .pointer (some ⟨q3, 0, none⟩)])), defers := [{ target := .collected D, args := #[] }] } u := by
        clear HBu
        intro u p1 p2 p3 q1 q2 q3 HBu HF2 HF5
        rw [HH.out, HT.out]
        simp only [List.setIfInBounds_toArray, List.set_cons_zero, List.set_cons_succ]
        refine heldD_two (i := 6) (k := 7) (by kernel_rfl) ?_ ?_
        · have hb : Below u.heap.size u (u.alloc (.cells #[.nilFunc] 76)) := (Below.refl _ _).alloc (Nat.le_refl _) _
          have hf : Blk (u.alloc (.cells #[.nilFunc] 76)) u.heap.size #[.nilFunc] 76 (0, 0) ∧ W.heap.size ≤ u.heap.size := ⟨Blk.new _ _ _ _, HBu.out.size⟩
          refine wpOpIn_value (v := .pointer (some ⟨u.heap.size, 0, none⟩)) (w' := u.alloc (.cells #[.nilFunc] 76)) rfl rfl rfl (by rfl) (by rfl) (by go_simp) ?_
          have HBu0 := HBu
          have HBu : Hid (Below W.heap.size W (u.alloc (.cells #[.nilFunc] 76))) := Lib.hid (HBu0.out.trans (hb.mono HBu0.out.size))
          refine ⟨fun _ => HSS.out _ HBu.out, ?_⟩
          simp only [List.setIfInBounds_toArray, List.set_cons_zero, List.set_cons_succ]
          have q := su_2_5_6 _ p1 p2 p3 q1 q2 q3 u.heap.size HBu (Lib.hid (HF2.out.keep (KpC.of_below hb))) (Lib.hid (HF5.out.keep (KpC.of_below hb))) (Lib.hid hf)
          rw [HH.out, HT.out] at q
          simp only [List.setIfInBounds_toArray, List.set_cons_zero, List.set_cons_succ] at q ⊢
          exact q
        · have hb : Below u.heap.size u (u.alloc (.cells #[.nilFunc] 76)) := (Below.refl _ _).alloc (Nat.le_refl _) _
          have hf : Blk (u.alloc (.cells #[.nilFunc] 76)) u.heap.size #[.nilFunc] 76 (0, 0) ∧ W.heap.size ≤ u.heap.size := ⟨Blk.new _ _ _ _, HBu.out.size⟩
          refine wpOpIn_value (v := .pointer (some ⟨u.heap.size, 0, none⟩)) (w' := u.alloc (.cells #[.nilFunc] 76)) rfl rfl rfl (by rfl) (by rfl) (by go_simp) ?_
          have HBu0 := HBu
          have HBu : Hid (Below W.heap.size W (u.alloc (.cells #[.nilFunc] 76))) := Lib.hid (HBu0.out.trans (hb.mono HBu0.out.size))
          refine ⟨fun _ => HSS.out _ HBu.out, ?_⟩
          simp only [List.setIfInBounds_toArray, List.set_cons_zero, List.set_cons_succ]
          have q := su_2_5_7 _ p1 p2 p3 q1 q2 q3 u.heap.size HBu (Lib.hid (HF2.out.keep (KpC.of_below hb))) (Lib.hid (HF5.out.keep (KpC.of_below hb))) (Lib.hid hf)
          rw [HH.out, HT.out] at q
          simp only [List.setIfInBounds_toArray, List.set_cons_zero, List.set_cons_succ] at q ⊢
          exact q
      have su_7 : ∀ (u : World) (B12 : Nat), Hid (Below W.heap.size W u) → Hid (Blk u B12 #[.nilFunc] 76 (0, 0) ∧ W.heap.size ≤ B12) → H 5 #[true, true, false, true, true, false, false, true, false, false] { tmps := (T.setIfInBounds 12 (.pointer (some ⟨B12, 0, none⟩))), defers := [{ target := .collected D, args := #[] }] } u := by
        clear HBu
        intro u B12 HBu HF7
        rw [HH.out, HT.out]
        simp only [List.setIfInBounds_toArray, List.set_cons_zero, List.set_cons_succ]
        refine heldD_two (i := 2) (k := 6) (by kernel_rfl) ?_ ?_
        · refine wpOpIn_calls' (f := 34) (args := #[.agg #[.int .i64 ax, .int .i64 bx, .bool qx], .int .i64 (C : Nat)]) rfl rfl (by rfl) (by go_simp) (parts_anyB ax bx qx (C : Nat) u HNx.out) ?_
          rintro e u2 ⟨p1, p2, p3, rfl, hq, hb⟩
          refine ⟨_, rfl, ?_⟩
          have hf : (PartsB u2 p1 p2 p3 ax bx (.bool qx) (C : Nat)) := hq
          have HBu0 := HBu
          have HBu : Hid (Below W.heap.size W u2) := Lib.hid (HBu0.out.trans (hb.mono HBu0.out.size))
          refine ⟨fun _ => HSS.out _ HBu.out, ?_⟩
          simp only [List.setIfInBounds_toArray, List.set_cons_zero, List.set_cons_succ]
          have q := su_2_7 _ p1 p2 p3 B12 HBu (Lib.hid hf) (Lib.hid (⟨HF7.out.1.below hb HF7.out.1.lt, HF7.out.2⟩))
          rw [HH.out, HT.out] at q
          simp only [List.setIfInBounds_toArray, List.set_cons_zero, List.set_cons_succ] at q ⊢
          exact q
        · have hb : Below u.heap.size u (u.alloc (.cells #[.nilFunc] 76)) := (Below.refl _ _).alloc (Nat.le_refl _) _
          have hf : Blk (u.alloc (.cells #[.nilFunc] 76)) u.heap.size #[.nilFunc] 76 (0, 0) ∧ W.heap.size ≤ u.heap.size := ⟨Blk.new _ _ _ _, HBu.out.size⟩
          refine wpOpIn_value (v := .pointer (some ⟨u.heap.size, 0, none⟩)) (w' := u.alloc (.cells #[.nilFunc] 76)) rfl rfl rfl (by rfl) (by rfl) (by go_simp) ?_
          have HBu0 := HBu
          have HBu : Hid (Below W.heap.size W (u.alloc (.cells #[.nilFunc] 76))) := Lib.hid (HBu0.out.trans (hb.mono HBu0.out.size))
          refine ⟨fun _ => HSS.out _ HBu.out, ?_⟩
          simp only [List.setIfInBounds_toArray, List.set_cons_zero, List.set_cons_succ]
          have q := su_6_7 _ u.heap.size B12 HBu (Lib.hid hf) (Lib.hid (⟨HF7.out.1.below hb HF7.out.1.lt, HF7.out.2⟩)) (Lib.hid (by have q := HF7.out.1.lt; omega))
          rw [HH.out, HT.out] at q
          simp only [List.setIfInBounds_toArray, List.set_cons_zero, List.set_cons_succ] at q ⊢
          exact q
      have su_6 : ∀ (u : World) (B11 : Nat), Hid (Below W.heap.size W u) → Hid (Blk u B11 #[.nilFunc] 76 (0, 0) ∧ W.heap.size ≤ B11) → H 5 #[true, true, false, true, true, false, true, false, false, false] { tmps := (T.setIfInBounds 11 (.pointer (some ⟨B11, 0, none⟩))), defers := [{ target := .collected D, args := #[] }] } u := by
        clear HBu
        intro u B11 HBu HF6
        rw [HH.out, HT.out]
        simp only [List.setIfInBounds_toArray, List.set_cons_zero, List.set_cons_succ]
        refine heldD_two (i := 2) (k := 7) (by kernel_rfl) ?_ ?_
        · refine wpOpIn_calls' (f := 34) (args := #[.agg #[.int .i64 ax, .int .i64 bx, .bool qx], .int .i64 (C : Nat)]) rfl rfl (by rfl) (by go_simp) (parts_anyB ax bx qx (C : Nat) u HNx.out) ?_
          rintro e u2 ⟨p1, p2, p3, rfl, hq, hb⟩
          refine ⟨_, rfl, ?_⟩
          have hf : (PartsB u2 p1 p2 p3 ax bx (.bool qx) (C : Nat)) := hq
          have HBu0 := HBu
          have HBu : Hid (Below W.heap.size W u2) := Lib.hid (HBu0.out.trans (hb.mono HBu0.out.size))
          refine ⟨fun _ => HSS.out _ HBu.out, ?_⟩
          simp only [List.setIfInBounds_toArray, List.set_cons_zero, List.set_cons_succ]
          have q := su_2_6 _ p1 p2 p3 B11 HBu (Lib.hid hf) (Lib.hid (⟨HF6.out.1.below hb HF6.out.1.lt, HF6.out.2⟩))
          rw [HH.out, HT.out] at q
          simp only [List.setIfInBounds_toArray, List.set_cons_zero, List.set_cons_succ] at q ⊢
          exact q
        · have hb : Below u.heap.size u (u.alloc (.cells #[.nilFunc] 76)) := (Below.refl _ _).alloc (Nat.le_refl _) _
          have hf : Blk (u.alloc (.cells #[.nilFunc] 76)) u.heap.size #[.nilFunc] 76 (0, 0) ∧ W.heap.size ≤ u.heap.size := ⟨Blk.new _ _ _ _, HBu.out.size⟩
          refine wpOpIn_value (v := .pointer (some ⟨u.heap.size, 0, none⟩)) (w' := u.alloc (.cells #[.nilFunc] 76)) rfl rfl rfl (by rfl) (by rfl) (by go_simp) ?_
          have HBu0 := HBu
          have HBu : Hid (Below W.heap.size W (u.alloc (.cells #[.nilFunc] 76))) := Lib.hid (HBu0.out.trans (hb.mono HBu0.out.size))
          refine ⟨fun _ => HSS.out _ HBu.out, ?_⟩
          simp only [List.setIfInBounds_toArray, List.set_cons_zero, List.set_cons_succ]
          have q := su_6_7 _ B11 u.heap.size HBu (Lib.hid (⟨HF6.out.1.below hb HF6.out.1.lt, HF6.out.2⟩)) (Lib.hid hf) (Lib.hid (by have q := HF6.out.1.lt; omega))
          rw [HH.out, HT.out] at q
          simp only [List.setIfInBounds_toArray, List.set_cons_zero, List.set_cons_succ] at q ⊢
          exact q
      have su_2 : ∀ (u : World) (p1 : Nat) (p2 : Nat) (p3 : Nat), Hid (Below W.heap.size W u) → Hid (PartsB u p1 p2 p3 ax bx (.bool qx) (C : Nat)) → H 5 #[true, true, true, true, true, false, false, false, false, false] { tmps := (T.setIfInBounds 34 (.func (.func 50) #[] #[.pointer (some ⟨p1, 0, none⟩), .pointer (some ⟨p2, 0, none⟩), .pointer (some ⟨p3, 0, none⟩)])), defers := [{ target := .collected D, args := #[] }] } u := by
        clear HBu
        intro u p1 p2 p3 HBu HF2
        rw [HH.out, HT.out]
        simp only [List.setIfInBounds_toArray, List.set_cons_zero, List.set_cons_succ]
        refine heldD_three (i := 5) (k := 6) (m := 7) (by kernel_rfl) ?_ ?_ ?_
        · refine wpOpIn_calls' (f := 34) (args := #[.agg #[.int .i64 ay, .int .i64 by_, .bool qy], .int .i64 (R : Nat)]) rfl rfl (by rfl) (by go_simp) (parts_anyB ay by_ qy (R : Nat) u HNy.out) ?_
          rintro e u2 ⟨q1, q2, q3, rfl, hq, hb⟩
          refine ⟨_, rfl, ?_⟩
          have hf : (PartsB u2 q1 q2 q3 ay by_ (.bool qy) (R : Nat)) := hq
          have HBu0 := HBu
          have HBu : Hid (Below W.heap.size W u2) := Lib.hid (HBu0.out.trans (hb.mono HBu0.out.size))
          refine ⟨fun _ => HSS.out _ HBu.out, ?_⟩
          simp only [List.setIfInBounds_toArray, List.set_cons_zero, List.set_cons_succ]
          have q := su_2_5 _ p1 p2 p3 q1 q2 q3 HBu (Lib.hid (HF2.out.keep (KpC.of_below hb))) (Lib.hid hf)
          rw [HH.out, HT.out] at q
          simp only [List.setIfInBounds_toArray, List.set_cons_zero, List.set_cons_succ] at q ⊢
          exact q
        · have hb : Below u.heap.size u (u.alloc (.cells #[.nilFunc] 76)) := (Below.refl _ _).alloc (Nat.le_refl _) _
          have hf : Blk (u.alloc (.cells #[.nilFunc] 76)) u.heap.size #[.nilFunc] 76 (0, 0) ∧ W.heap.size ≤ u.heap.size := ⟨Blk.new _ _ _ _, HBu.out.size⟩
          refine wpOpIn_value (v := .pointer (some ⟨u.heap.size, 0, none⟩)) (w' := u.alloc (.cells #[.nilFunc] 76)) rfl rfl rfl (by rfl) (by rfl) (by go_simp) ?_
          have HBu0 := HBu
          have HBu : Hid (Below W.heap.size W (u.alloc (.cells #[.nilFunc] 76))) := Lib.hid (HBu0.out.trans (hb.mono HBu0.out.size))
          refine ⟨fun _ => HSS.out _ HBu.out, ?_⟩
          simp only [List.setIfInBounds_toArray, List.set_cons_zero, List.set_cons_succ]
          have q := su_2_6 _ p1 p2 p3 u.heap.size HBu (Lib.hid (HF2.out.keep (KpC.of_below hb))) (Lib.hid hf)
          rw [HH.out, HT.out] at q
          simp only [List.setIfInBounds_toArray, List.set_cons_zero, List.set_cons_succ] at q ⊢
          exact q
        · have hb : Below u.heap.size u (u.alloc (.cells #[.nilFunc] 76)) := (Below.refl _ _).alloc (Nat.le_refl _) _
          have hf : Blk (u.alloc (.cells #[.nilFunc] 76)) u.heap.size #[.nilFunc] 76 (0, 0) ∧ W.heap.size ≤ u.heap.size := ⟨Blk.new _ _ _ _, HBu.out.size⟩
          refine wpOpIn_value (v := .pointer (some ⟨u.heap.size, 0, none⟩)) (w' := u.alloc (.cells #[.nilFunc] 76)) rfl rfl rfl (by rfl) (by rfl) (by go_simp) ?_
          have HBu0 := HBu
          have HBu : Hid (Below W.heap.size W (u.alloc (.cells #[.nilFunc] 76))) := Lib.hid (HBu0.out.trans (hb.mono HBu0.out.size))
          refine ⟨fun _ => HSS.out _ HBu.out, ?_⟩
          simp only [List.setIfInBounds_toArray, List.set_cons_zero, List.set_cons_succ]
          have q := su_2_7 _ p1 p2 p3 u.heap.size HBu (Lib.hid (HF2.out.keep (KpC.of_below hb))) (Lib.hid hf)
          rw [HH.out, HT.out] at q
          simp only [List.setIfInBounds_toArray, List.set_cons_zero, List.set_cons_succ] at q ⊢
          exact q
      have su_ : ∀ (u : World), Hid (Below W.heap.size W u) → H 6 #[true, true, false, true, true, false, false, false, false, false] { tmps := T, defers := [{ target := .collected D, args := #[] }] } u := by
        clear HBu
        intro u HBu
        rw [HH.out, HT.out]
        refine heldD_three (i := 2) (k := 6) (m := 7) (by kernel_rfl) ?_ ?_ ?_
        · refine wpOpIn_calls' (f := 34) (args := #[.agg #[.int .i64 ax, .int .i64 bx, .bool qx], .int .i64 (C : Nat)]) rfl rfl (by rfl) (by go_simp) (parts_anyB ax bx qx (C : Nat) u HNx.out) ?_
          rintro e u2 ⟨p1, p2, p3, rfl, hq, hb⟩
          refine ⟨_, rfl, ?_⟩
          have hf : (PartsB u2 p1 p2 p3 ax bx (.bool qx) (C : Nat)) := hq
          have HBu0 := HBu
          have HBu : Hid (Below W.heap.size W u2) := Lib.hid (HBu0.out.trans (hb.mono HBu0.out.size))
          refine ⟨fun _ => HSS.out _ HBu.out, ?_⟩
          simp only [List.setIfInBounds_toArray, List.set_cons_zero, List.set_cons_succ]
          have q := su_2 _ p1 p2 p3 HBu (Lib.hid hf)
          rw [HH.out, HT.out] at q
          simp only [List.setIfInBounds_toArray, List.set_cons_zero, List.set_cons_succ] at q ⊢
          exact q
        · have hb : Below u.heap.size u (u.alloc (.cells #[.nilFunc] 76)) := (Below.refl _ _).alloc (Nat.le_refl _) _
          have hf : Blk (u.alloc (.cells #[.nilFunc] 76)) u.heap.size #[.nilFunc] 76 (0, 0) ∧ W.heap.size ≤ u.heap.size := ⟨Blk.new _ _ _ _, HBu.out.size⟩
          refine wpOpIn_value (v := .pointer (some ⟨u.heap.size, 0, none⟩)) (w' := u.alloc (.cells #[.nilFunc] 76)) rfl rfl rfl (by rfl) (by rfl) (by go_simp) ?_
          have HBu0 := HBu
          have HBu : Hid (Below W.heap.size W (u.alloc (.cells #[.nilFunc] 76))) := Lib.hid (HBu0.out.trans (hb.mono HBu0.out.size))
          refine ⟨fun _ => HSS.out _ HBu.out, ?_⟩
          simp only [List.setIfInBounds_toArray, List.set_cons_zero, List.set_cons_succ]
          have q := su_6 _ u.heap.size HBu (Lib.hid hf)
          rw [HH.out, HT.out] at q
          simp only [List.setIfInBounds_toArray, List.set_cons_zero, List.set_cons_succ] at q ⊢
          exact q
        · have hb : Below u.heap.size u (u.alloc (.cells #[.nilFunc] 76)) := (Below.refl _ _).alloc (Nat.le_refl _) _
          have hf : Blk (u.alloc (.cells #[.nilFunc] 76)) u.heap.size #[.nilFunc] 76 (0, 0) ∧ W.heap.size ≤ u.heap.size := ⟨Blk.new _ _ _ _, HBu.out.size⟩
          refine wpOpIn_value (v := .pointer (some ⟨u.heap.size, 0, none⟩)) (w' := u.alloc (.cells #[.nilFunc] 76)) rfl rfl rfl (by rfl) (by rfl) (by go_simp) ?_
          have HBu0 := HBu
          have HBu : Hid (Below W.heap.size W (u.alloc (.cells #[.nilFunc] 76))) := Lib.hid (HBu0.out.trans (hb.mono HBu0.out.size))
          refine ⟨fun _ => HSS.out _ HBu.out, ?_⟩
          simp only [List.setIfInBounds_toArray, List.set_cons_zero, List.set_cons_succ]
          have q := su_7 _ u.heap.size HBu (Lib.hid hf)
          rw [HH.out, HT.out] at q
          simp only [List.setIfInBounds_toArray, List.set_cons_zero, List.set_cons_succ] at q ⊢
          exact q
      exact su_ wk0 HBu
    clear HBu
    intro u p1 p2 p3 q1 q2 q3 B11 B12 HBu HF2 HF5 HF6 HF7 HN6_7
    rw [HH.out, HT.out]
    simp only [List.setIfInBounds_toArray, List.set_cons_zero, List.set_cons_succ]
    clear HH HT
    have k11 := HF6.out.1; have k12 := HF7.out.1
    have z11 : Blk ((u.setCell ⟨B11, 0, none⟩ (.func (.func 50) #[] #[.pointer (some ⟨p1, 0, none⟩), .pointer (some ⟨p2, 0, none⟩), .pointer (some ⟨p3, 0, none⟩)])).setCell ⟨B12, 0, none⟩ (.func (.func 50) #[] #[.pointer (some ⟨q1, 0, none⟩), .pointer (some ⟨q2, 0, none⟩), .pointer (some ⟨q3, 0, none⟩)])) B11 #[.func (.func 50) #[] #[.pointer (some ⟨p1, 0, none⟩), .pointer (some ⟨p2, 0, none⟩), .pointer (some ⟨p3, 0, none⟩)]] 76 (0, 0) := (k11.set 0 _).setOther _ _ HN6_7.out
    have z12 : Blk ((u.setCell ⟨B11, 0, none⟩ (.func (.func 50) #[] #[.pointer (some ⟨p1, 0, none⟩), .pointer (some ⟨p2, 0, none⟩), .pointer (some ⟨p3, 0, none⟩)])).setCell ⟨B12, 0, none⟩ (.func (.func 50) #[] #[.pointer (some ⟨q1, 0, none⟩), .pointer (some ⟨q2, 0, none⟩), .pointer (some ⟨q3, 0, none⟩)])) B12 #[.func (.func 50) #[] #[.pointer (some ⟨q1, 0, none⟩), .pointer (some ⟨q2, 0, none⟩), .pointer (some ⟨q3, 0, none⟩)]] 76 (0, 0) := (k12.setOther _ _ (fun e => HN6_7.out e.symm)).set 0 _
    have m0 := k11.cell 0; have m1 := k12.cell 0
    simp only [List.getElem?_toArray, List.getElem?_cons_zero] at m0 m1
    have f0 := k11.free 0 (Or.inr (Nat.zero_le _)); have f1 := k12.free 0 (Or.inr (Nat.zero_le _))
    have hne := HN6_7.out
    have hne2 : B12 ≠ B11 := fun e => hne e.symm
    have hbz : Below W.heap.size W ((u.setCell ⟨B11, 0, none⟩ (.func (.func 50) #[] #[.pointer (some ⟨p1, 0, none⟩), .pointer (some ⟨p2, 0, none⟩), .pointer (some ⟨p3, 0, none⟩)])).setCell ⟨B12, 0, none⟩ (.func (.func 50) #[] #[.pointer (some ⟨q1, 0, none⟩), .pointer (some ⟨q2, 0, none⟩), .pointer (some ⟨q3, 0, none⟩)])) := (HBu.out.setCell (p := ⟨B11, 0, none⟩) HF6.out.2 _).setCell (p := ⟨B12, 0, none⟩) HF7.out.2 _
    have hpx := (HF2.out.set k11 (show 76 ≠ 71 ∧ 76 ≠ 3 ∧ 76 ≠ 2 by decide) (.func (.func 50) #[] #[.pointer (some ⟨p1, 0, none⟩), .pointer (some ⟨p2, 0, none⟩), .pointer (some ⟨p3, 0, none⟩)])).set (k12.setOther ⟨B11, 0, none⟩ (.func (.func 50) #[] #[.pointer (some ⟨p1, 0, none⟩), .pointer (some ⟨p2, 0, none⟩), .pointer (some ⟨p3, 0, none⟩)]) hne2) (by decide) (.func (.func 50) #[] #[.pointer (some ⟨q1, 0, none⟩), .pointer (some ⟨q2, 0, none⟩), .pointer (some ⟨q3, 0, none⟩)])
    have hpy := (HF5.out.set k11 (show 76 ≠ 71 ∧ 76 ≠ 3 ∧ 76 ≠ 2 by decide) (.func (.func 50) #[] #[.pointer (some ⟨p1, 0, none⟩), .pointer (some ⟨p2, 0, none⟩), .pointer (some ⟨p3, 0, none⟩)])).set (k12.setOther ⟨B11, 0, none⟩ (.func (.func 50) #[] #[.pointer (some ⟨p1, 0, none⟩), .pointer (some ⟨p2, 0, none⟩), .pointer (some ⟨p3, 0, none⟩)]) hne2) (by decide) (.func (.func 50) #[] #[.pointer (some ⟨q1, 0, none⟩), .pointer (some ⟨q2, 0, none⟩), .pointer (some ⟨q3, 0, none⟩)])
    have HE := Lib.hid (And.intro z11 (And.intro z12 (And.intro hbz (And.intro hpx hpy))))
    have HBo := Lib.hid (And.intro HF6.out.2 HF7.out.2)
    clear k11 k12 z11 z12 hbz hpx hpy
    refine heldD_one (i := 8) (by kernel_rfl) ?_
    refine wpOpIn_skip (w' := u.setCell ⟨B11, 0, none⟩ (.func (.func 50) #[] #[.pointer (some ⟨p1, 0, none⟩), .pointer (some ⟨p2, 0, none⟩), .pointer (some ⟨p3, 0, none⟩)])) rfl rfl rfl (by rfl) (by rfl) (by go_simp) ?_
    refine ⟨fun h => (by cases h), ?_⟩
    refine heldD_one (i := 9) (by kernel_rfl) ?_
    refine wpOpIn_skip (w' := (u.setCell ⟨B11, 0, none⟩ (.func (.func 50) #[] #[.pointer (some ⟨p1, 0, none⟩), .pointer (some ⟨p2, 0, none⟩), .pointer (some ⟨p3, 0, none⟩)])).setCell ⟨B12, 0, none⟩ (.func (.func 50) #[] #[.pointer (some ⟨q1, 0, none⟩), .pointer (some ⟨q2, 0, none⟩), .pointer (some ⟨q3, 0, none⟩)])) rfl rfl rfl (by rfl) (by rfl) (by go_simp) ?_
    refine ⟨fun h => (by cases h), ?_⟩
    refine heldD_done (by kernel_rfl) ?_ _
    generalize (u.setCell ⟨B11, 0, none⟩ (.func (.func 50) #[] #[.pointer (some ⟨p1, 0, none⟩), .pointer (some ⟨p2, 0, none⟩), .pointer (some ⟨p3, 0, none⟩)])).setCell ⟨B12, 0, none⟩ (.func (.func 50) #[] #[.pointer (some ⟨q1, 0, none⟩), .pointer (some ⟨q2, 0, none⟩), .pointer (some ⟨q3, 0, none⟩)]) = W9 at *
    clear m0 m1 f0 f1 HF2 HF5 HF6 HF7 HN6_7 HBu HSS H7 H8
    have k4 := H4.out.below HE.out.2.2.1 H4.out.lt
    have k6 := H6.out.below HE.out.2.2.1 H6.out.lt
    have hKD := (HE.out.2.2.1.block D (Array.getElem?_eq_some_iff.1 HKD.out).1).trans HKD.out
    have hwz := HWW.out.trans (HE.out.2.2.1.mono HWW.out.size)
    have H4 := Lib.hid k4; have H6 := Lib.hid k6; have HKD := Lib.hid hKD; have HWW := Lib.hid hwz
    clear k4 k6 hKD hwz
    refine PanTo.normal ?_
    gi_wp2_with fail
    refine ⟨trivial, ?_⟩
    refine (places_in (m - 1) p W9).mono ?_
    rintro e W10 ⟨rfl, hW10⟩
    obtain ⟨Bm, hBm⟩ : ∃ b, b = W9.heap.size := ⟨_, rfl⟩
    rw [← hBm]
    have hz10 : W10.heap.size = Bm + 1 := by rw [hW10, hBm]; simp
    have hb10 : Below W9.heap.size W9 W10 := by rw [hW10]; exact (Below.refl _ _).alloc (Nat.le_refl _) _
    have Km : Blk W10 Bm #[.pointer p] 28 (0, 0) := by rw [hW10, hBm]; exact Blk.new _ _ _ _
    have hww : Below w.heap.size w W10 := HWW.out.next' hb10
    have k4 := H4.out.below hb10 H4.out.lt; have k6 := H6.out.below hb10 H6.out.lt
    have k11 := HE.out.1.below hb10 HE.out.1.lt; have k12 := HE.out.2.1.below hb10 HE.out.2.1.lt
    have hpx := HE.out.2.2.2.1.keep (KpC.of_below hb10); have hpy := HE.out.2.2.2.2.keep (KpC.of_below hb10)
    have hKD := (hb10.block D (Array.getElem?_eq_some_iff.1 HKD.out).1).trans HKD.out
    have hst2 := places_stops (m - 1) (by omega) Bm w.heap.size w p N f HP.out W10 hww hww.size Km
    have h4m : B4 < Bm := by have := H4.out.lt; omega
    have HM4 := Lib.hid (And.intro k4 (And.intro k6 (And.intro k11 (And.intro k12 (And.intro hpx (And.intro hpy hKD))))))
    have HWW := Lib.hid hww; have HZ10 := Lib.hid (And.intro hz10 (And.intro h4m hww.size))
    clear hW10 hBm hb10 Km k6 k11 k12 hpx hpy hKD H4 H6 HE HKD
    gi_wp2_with fail
    refine wpIn_rangeFunc_ownG (F := Fence.wide) rfl h1 (gf := 47) (lb := #[.pointer (some ⟨Bm, 0, none⟩)]) rfl trivial (enters_of Tryd.func47 (by kernel_rfl) rfl)
      hst2 KpB.trans (KpB.put hww.size (by omega)) (Below.refl _ _) (fun _ => rfl)
      (fun pre V => (∃ v, Boxed V B4 35 v ∧ V.ownsRow W10.heap.size 3 1 v (pre.map fun (k : Fin N) => cellOf ex ey R C (f k)).length ((pre.map fun (k : Fin N) => cellOf ex ey R C (f k)).flatMap inC) ∧ pre.length ≤ N) ∧ Kept (fun k => k = B4) W10 V)
      (fun _ _ _ => False)
      (OwnFrom.and (Own.from (holdsRow_own W10.heap.size B4 35 3 1 (fun pre : List (Fin N) => (pre.map fun (k : Fin N) => cellOf ex ey R C (f k)).length) (fun pre => (pre.map fun (k : Fin N) => cellOf ex ey R C (f k)).flatMap inC) (fun pre _ => pre.length ≤ N)) _) (ownFrom_kept (Nat.le_refl _)))
      (fun _ _ _ _ _ hs _ _ => hs)
      ⟨⟨_, k4, World.ownsRow_nil _ _ _ _, Nat.zero_le _⟩, Kept.refl _ _⟩
      ?a2 ?assign2 ?body2 ?done2 ?stop2
    case assign2 =>
      intro l x V K hK
      dsimp only [encI2]
      gi_wp2
      exact hK
    case stop2 =>
      rintro D c pre V _ _ h _
      exact h.elim
    case body2 =>
      rintro l pre x V ⟨⟨v, hv, hrow, hlen⟩, hKV⟩ hlt
      obtain ⟨L, hL⟩ : ∃ L, L = pre.map fun (k : Fin N) => cellOf ex ey R C (f k) := ⟨_, rfl⟩
      rw [← hL] at hrow
      have hLl : L.length ≤ 1000000 := by rw [hL, List.length_map]; omega
      obtain ⟨va, vn, vc, rfl⟩ := hrow.one'
      obtain ⟨⟨px, py⟩, hxy⟩ : ∃ q, q = f x := ⟨_, rfl⟩
      have hX := (HX.out.1 x); have hY := (HX.out.2 x)
      rw [← hxy] at hX hY
      dsimp only at hX hY
      obtain ⟨pr, hpr⟩ : ∃ q, q = partV ay by_ R py := ⟨_, rfl⟩
      obtain ⟨pc, hpc⟩ : ∃ q, q = partV ax bx C px := ⟨_, rfl⟩
      have hrc := HRC.out; have hsf := HSf.out
      have r1 := part_range (least := ay) (most := by_) (many := R) (x := py) ⟨by omega, by omega⟩ (by have := HS.out.pos; omega)
      have r2 := part_range (least := ax) (most := bx) (many := C) (x := px) ⟨by omega, by omega⟩ (by omega)
      rw [← hpr] at r1; rw [← hpc] at r2
      have hcr := cell_range r1 r2
      have hmC : 0 ≤ pr * C ∧ pr * C ≤ 65536 := by
        have g1 : 0 ≤ pr * C := Int.mul_nonneg r1.1 (by omega)
        have g2 : (R : Int) * C ≤ 256 := by have := hsf.1; have h : R * C ≤ 256 := by omega
                                            exact_mod_cast h
        omega
      have wm : wrap64 (pr * C) = pr * C := by unfold wrap64; omega
      have wm2 : wrap64 (pr * C + pc) = pr * C + pc := by
        have g2 : (R : Int) * C ≤ 256 := by have := hsf.1; have h : R * C ≤ 256 := by omega
                                            exact_mod_cast h
        unfold wrap64; omega
      have wm1 : IntKind.i64.wrap (pr * C) = pr * C := by rw [IntKind.wrap_i64]; omega
      have wm3 : IntKind.i64.wrap (pr * C + pc) = pr * C + pc := by
        have g2 : (R : Int) * C ≤ 256 := by have := hsf.1; have h : R * C ≤ 256 := by omega
                                            exact_mod_cast h
        rw [IntKind.wrap_i64]; omega
      have hcell : cellOf ex ey R C (f x) = pr * C + pc := by rw [HCv.out x, hpr, hpc, ← hxy]
      obtain ⟨q, hq⟩ : ∃ q, q = pr * C := ⟨_, rfl⟩
      have wq : IntKind.i64.wrap (pr * C) = q := by rw [hq]; exact wm1
      rw [← hq] at wm2 wm3 hcell
      clear wm wm1
      have hsz := hKV.size
      have hz10 := HZ10.out
      have kb : ∀ {k : Nat} {cs : Array Value} {t : TypeId} {fr : Nat × Nat}, Blk W10 k cs t fr → k ≠ B4 → Blk V k cs t fr := fun h hne => hKV.blk h hne
      have e46 : B6 ≠ B4 := by have := HZ.out; omega
      have k6 := kb HM4.out.2.1 e46
      have e114 : B11 ≠ B4 := fun e => absurd (blk_type (show Blk W10 B11 _ _ _ from HM4.out.2.2.1) (by rw [e]; exact HM4.out.1)) (by decide)
      have e124 : B12 ≠ B4 := fun e => absurd (blk_type (show Blk W10 B12 _ _ _ from HM4.out.2.2.2.1) (by rw [e]; exact HM4.out.1)) (by decide)
      have k11 := kb HM4.out.2.2.1 e114; have k12 := kb HM4.out.2.2.2.1 e124
      have hpx : PartsB V p1 p2 p3 ax bx (.bool qx) C := ⟨kb HM4.out.2.2.2.2.1.one (fun e => absurd (blk_type (show Blk W10 p1 _ _ _ from HM4.out.2.2.2.2.1.one) (by rw [e]; exact HM4.out.1)) (by decide)), kb HM4.out.2.2.2.2.1.two (fun e => absurd (blk_type (show Blk W10 p2 _ _ _ from HM4.out.2.2.2.2.1.two) (by rw [e]; exact HM4.out.1)) (by decide)), kb HM4.out.2.2.2.2.1.three (fun e => absurd (blk_type (show Blk W10 p3 _ _ _ from HM4.out.2.2.2.2.1.three) (by rw [e]; exact HM4.out.1)) (by decide))⟩
      have hpy : PartsB V q1 q2 q3 ay by_ (.bool qy) R := ⟨kb HM4.out.2.2.2.2.2.1.one (fun e => absurd (blk_type (show Blk W10 q1 _ _ _ from HM4.out.2.2.2.2.2.1.one) (by rw [e]; exact HM4.out.1)) (by decide)), kb HM4.out.2.2.2.2.2.1.two (fun e => absurd (blk_type (show Blk W10 q2 _ _ _ from HM4.out.2.2.2.2.2.1.two) (by rw [e]; exact HM4.out.1)) (by decide)), kb HM4.out.2.2.2.2.2.1.three (fun e => absurd (blk_type (show Blk W10 q3 _ _ _ from HM4.out.2.2.2.2.2.1.three) (by rw [e]; exact HM4.out.1)) (by decide))⟩
      have HCr := Lib.hid (show ∀ u, Below V.heap.size V u → Calls Tryd.prog 50 #[.int .i64 py, .pointer (some ⟨q1, 0, none⟩), .pointer (some ⟨q2, 0, none⟩), .pointer (some ⟨q3, 0, none⟩)] u fun e w' => e = .returned (.int .i64 pr) ∧ w' = u from fun u hu => by
        have k := hpy.keep (KpC.of_below hu)
        rw [hpr]
        exact parts1_any ay by_ (.bool qy) R py u (by omega) ⟨by omega, by omega⟩ (by omega) q1 q2 q3 k.one k.two k.three)
      have HCc := Lib.hid (show ∀ u, Below V.heap.size V u → Calls Tryd.prog 50 #[.int .i64 px, .pointer (some ⟨p1, 0, none⟩), .pointer (some ⟨p2, 0, none⟩), .pointer (some ⟨p3, 0, none⟩)] u fun e w' => e = .returned (.int .i64 pc) ∧ w' = u from fun u hu => by
        have k := hpx.keep (KpC.of_below hu)
        rw [hpc]
        exact parts1_any ax bx (.bool qx) C px u (by omega) ⟨by omega, by omega⟩ (by omega) p1 p2 p3 k.one k.two k.three)
      have HBx := Lib.hid (show Blk V B4 #[.slice va vn vc] 35 (0, 0) from hv)
      have HKs := Lib.hid (And.intro k6 (And.intro k11 k12))
      have HSS := Lib.hid (show ∀ u, Below V.heap.size V u → (u.cell? ⟨B4, 0, none⟩ = some (.slice va vn vc) ∧ u.cell? ⟨B12, 0, none⟩ = some (.func (.func 50) #[] #[.pointer (some ⟨q1, 0, none⟩), .pointer (some ⟨q2, 0, none⟩), .pointer (some ⟨q3, 0, none⟩)]) ∧ u.cell? ⟨B6, 0, none⟩ = some (.int .i64 (C : Nat)) ∧ u.cell? ⟨B11, 0, none⟩ = some (.func (.func 50) #[] #[.pointer (some ⟨p1, 0, none⟩), .pointer (some ⟨p2, 0, none⟩), .pointer (some ⟨p3, 0, none⟩)])) from fun u hu => ⟨(HBx.out.below hu HBx.out.lt).cell 0, (k12.below hu k12.lt).cell 0, (k6.below hu k6.lt).cell 0, (k11.below hu k11.lt).cell 0⟩)
      have HRow := Lib.hid hrow; have HLl := Lib.hid hLl; have HLe := Lib.hid hL; have HCe := Lib.hid hcell; have HKV := Lib.hid hKV; have HLn := Lib.hid (show pre.length + 1 ≤ N by omega)
      have HOld := Lib.hid (show B6 < W10.heap.size ∧ B11 < W10.heap.size ∧ B12 < W10.heap.size ∧ B4 < W10.heap.size from ⟨HM4.out.2.1.lt, HM4.out.2.2.1.lt, HM4.out.2.2.2.1.lt, HM4.out.1.lt⟩)
      rw [← hxy]
      dsimp only
      clear hX hY hpr hpc hrc hsf r1 r2 hcr hmC hcell hq hv hrow hLl hL hxy hsz hz10 kb k6 k11 k12 e46 e114 e124 hpx hpy hKV hst2 hww k4 h4m hlen
      gi_wp2_with fail
      refine round_region_heldD (fun w' => w'.cell? ⟨B4, 0, none⟩ = some (.slice va vn vc) ∧ w'.cell? ⟨B12, 0, none⟩ = some (.func (.func 50) #[] #[.pointer (some ⟨q1, 0, none⟩), .pointer (some ⟨q2, 0, none⟩), .pointer (some ⟨q3, 0, none⟩)]) ∧ w'.cell? ⟨B6, 0, none⟩ = some (.int .i64 (C : Nat)) ∧ w'.cell? ⟨B11, 0, none⟩ = some (.func (.func 50) #[] #[.pointer (some ⟨p1, 0, none⟩), .pointer (some ⟨p2, 0, none⟩), .pointer (some ⟨p3, 0, none⟩)])) 12 rfl (by kernel_rfl) ?_
      change heldD _ _ _ _ _ _ _ 13 _ _ V.drew
      obtain ⟨wk0, hu0⟩ : ∃ u, u = V.drew := ⟨_, rfl⟩
      have HBu := Lib.hid (show Below V.heap.size V wk0 by rw [hu0]; exact (Below.refl _ _).drew)
      rw [← hu0]
      clear hu0
      refine heldD_take (i := 0) (v := .slice va vn vc) rfl rfl rfl (by kernel_rfl) (by kernel_rfl) (by kernel_rfl) (by kernel_rfl) (by kernel_rfl) (by kernel_rfl) (fun _ _ _ h => h) (by rfl) (fun w hS => ⟨by rfl, by obtain ⟨hS1, hS2, hS3, hS4⟩ := hS; go_simp⟩) (HSS.out _ HBu.out) ?_
      simp only [List.setIfInBounds_toArray, List.set_cons_zero, List.set_cons_succ]
      refine heldD_take (i := 1) (v := .func (.func 50) #[] #[.pointer (some ⟨q1, 0, none⟩), .pointer (some ⟨q2, 0, none⟩), .pointer (some ⟨q3, 0, none⟩)]) rfl rfl rfl (by kernel_rfl) (by kernel_rfl) (by kernel_rfl) (by kernel_rfl) (by kernel_rfl) (by kernel_rfl) (fun _ _ _ h => h) (by rfl) (fun w hS => ⟨by rfl, by obtain ⟨hS1, hS2, hS3, hS4⟩ := hS; go_simp⟩) (HSS.out _ HBu.out) ?_
      simp only [List.setIfInBounds_toArray, List.set_cons_zero, List.set_cons_succ]
      refine heldD_takeF (i := 2) (v := .int .i64 py) rfl rfl rfl (by kernel_rfl) (by kernel_rfl) (by kernel_rfl) (by kernel_rfl) (fun _ _ _ h => h) (by rfl) (fun w => ⟨by rfl, by go_simp⟩) (fun _ => HSS.out _ HBu.out) ?_
      simp only [List.setIfInBounds_toArray, List.set_cons_zero, List.set_cons_succ]
      refine heldD_take (i := 4) (v := .int .i64 (C : Nat)) rfl rfl rfl (by kernel_rfl) (by kernel_rfl) (by kernel_rfl) (by kernel_rfl) (by kernel_rfl) (by kernel_rfl) (fun _ _ _ h => h) (by rfl) (fun w hS => ⟨by rfl, by obtain ⟨hS1, hS2, hS3, hS4⟩ := hS; go_simp⟩) (HSS.out _ HBu.out) ?_
      simp only [List.setIfInBounds_toArray, List.set_cons_zero, List.set_cons_succ]
      refine heldD_take (i := 6) (v := .func (.func 50) #[] #[.pointer (some ⟨p1, 0, none⟩), .pointer (some ⟨p2, 0, none⟩), .pointer (some ⟨p3, 0, none⟩)]) rfl rfl rfl (by kernel_rfl) (by kernel_rfl) (by kernel_rfl) (by kernel_rfl) (by kernel_rfl) (by kernel_rfl) (fun _ _ _ h => h) (by rfl) (fun w hS => ⟨by rfl, by obtain ⟨hS1, hS2, hS3, hS4⟩ := hS; go_simp⟩) (HSS.out _ HBu.out) ?_
      simp only [List.setIfInBounds_toArray, List.set_cons_zero, List.set_cons_succ]
      refine heldD_takeF (i := 7) (v := .int .i64 px) rfl rfl rfl (by kernel_rfl) (by kernel_rfl) (by kernel_rfl) (by kernel_rfl) (fun _ _ _ h => h) (by rfl) (fun w => ⟨by rfl, by go_simp⟩) (fun _ => HSS.out _ HBu.out) ?_
      simp only [List.setIfInBounds_toArray, List.set_cons_zero, List.set_cons_succ]
      refine heldD_HT ?_
      intro H hH T hT
      have HH := Lib.hid hH; have HT := Lib.hid hT
      clear hH hT
      suffices sv_3_8_10 : ∀ (u : World) (bs : Nat), Hid (Below V.heap.size V u) → Hid True → Hid True → Hid (Blk u bs #[.int .i64 (q + pc)] 3 (0, 0)) → H 2 #[true, true, true, true, true, true, true, true, true, true, true, false, false] { tmps := (((((T.setIfInBounds 45 (.int .i64 pr)).setIfInBounds 47 (.int .i64 q)).setIfInBounds 50 (.int .i64 pc)).setIfInBounds 51 (.int .i64 (q + pc))).setIfInBounds 52 (.slice (some ⟨bs, 0, none⟩) 1 1)), defers := [] } u from by
        have sv_3_8 : ∀ (u : World), Hid (Below V.heap.size V u) → Hid True → Hid True → H 3 #[true, true, true, true, true, true, true, true, true, true, false, false, false] { tmps := ((((T.setIfInBounds 45 (.int .i64 pr)).setIfInBounds 47 (.int .i64 q)).setIfInBounds 50 (.int .i64 pc)).setIfInBounds 51 (.int .i64 (q + pc))), defers := [] } u := by
          clear HBu
          intro u HBu HF3 HF8
          rw [HH.out, HT.out]
          simp only [List.setIfInBounds_toArray, List.set_cons_zero, List.set_cons_succ]
          refine heldD_one (i := 10) (by kernel_rfl) ?_
          have hb : Below u.heap.size u (u.alloc (.cells #[.int .i64 (q + pc)] 3)) := (Below.refl _ _).alloc (Nat.le_refl _) _
          have hf : Blk (u.alloc (.cells #[.int .i64 (q + pc)] 3)) u.heap.size #[.int .i64 (q + pc)] 3 (0, 0) := Blk.new _ _ _ _
          refine wpOpIn_value (v := .slice (some ⟨u.heap.size, 0, none⟩) 1 1) (w' := (u.alloc (.cells #[.int .i64 (q + pc)] 3))) rfl rfl rfl (by rfl) (by rfl) (by go_simp) ?_
          have HBu0 := HBu
          have HBu : Hid (Below V.heap.size V (u.alloc (.cells #[.int .i64 (q + pc)] 3))) := Lib.hid (HBu0.out.trans (hb.mono HBu0.out.size))
          refine ⟨fun _ => HSS.out _ HBu.out, ?_⟩
          simp only [List.setIfInBounds_toArray, List.set_cons_zero, List.set_cons_succ]
          have q := sv_3_8_10 _ u.heap.size HBu (Lib.hid (HF3.out)) (Lib.hid (HF8.out)) (Lib.hid hf)
          rw [HH.out, HT.out] at q
          simp only [List.setIfInBounds_toArray, List.set_cons_zero, List.set_cons_succ] at q ⊢
          exact q
        have sv_3 : ∀ (u : World), Hid (Below V.heap.size V u) → Hid True → H 5 #[true, true, true, true, true, true, true, true, false, false, false, false, false] { tmps := ((T.setIfInBounds 45 (.int .i64 pr)).setIfInBounds 47 (.int .i64 q)), defers := [] } u := by
          clear HBu
          intro u HBu HF3
          rw [HH.out, HT.out]
          simp only [List.setIfInBounds_toArray, List.set_cons_zero, List.set_cons_succ]
          refine heldD_one (i := 8) (by kernel_rfl) ?_
          refine wpOpIn_calls' (f := 50) (args := #[.int .i64 px, .pointer (some ⟨p1, 0, none⟩), .pointer (some ⟨p2, 0, none⟩), .pointer (some ⟨p3, 0, none⟩)]) rfl rfl (by rfl) (by go_simp) (HCc.out u HBu.out) ?_
          rintro e u2 ⟨rfl, rfl⟩
          refine ⟨_, rfl, ?_⟩
          have hb : Below u2.heap.size u2 u2 := Below.refl _ _
          have hf : True := trivial
          have HBu0 := HBu
          have HBu : Hid (Below V.heap.size V u2) := Lib.hid (HBu0.out.trans (hb.mono HBu0.out.size))
          refine ⟨fun _ => HSS.out _ HBu.out, ?_⟩
          simp only [List.setIfInBounds_toArray, List.set_cons_zero, List.set_cons_succ]
          refine heldD_takeF (i := 9) (v := .int .i64 (q + pc)) rfl rfl rfl (by kernel_rfl) (by kernel_rfl) (by kernel_rfl) (by kernel_rfl) (fun _ _ _ h => h) (by rfl) (fun w => ⟨by rfl, by go_simp⟩) (fun _ => HSS.out _ HBu.out) ?_
          simp only [List.setIfInBounds_toArray, List.set_cons_zero, List.set_cons_succ]
          have q := sv_3_8 _ HBu (Lib.hid (HF3.out)) (Lib.hid hf)
          rw [HH.out, HT.out] at q
          simp only [List.setIfInBounds_toArray, List.set_cons_zero, List.set_cons_succ] at q ⊢
          exact q
        have sv_ : ∀ (u : World), Hid (Below V.heap.size V u) → H 7 #[true, true, true, false, true, false, true, true, false, false, false, false, false] { tmps := T, defers := [] } u := by
          clear HBu
          intro u HBu
          rw [HH.out, HT.out]
          refine heldD_one (i := 3) (by kernel_rfl) ?_
          refine wpOpIn_calls' (f := 50) (args := #[.int .i64 py, .pointer (some ⟨q1, 0, none⟩), .pointer (some ⟨q2, 0, none⟩), .pointer (some ⟨q3, 0, none⟩)]) rfl rfl (by rfl) (by go_simp) (HCr.out u HBu.out) ?_
          rintro e u2 ⟨rfl, rfl⟩
          refine ⟨_, rfl, ?_⟩
          have hb : Below u2.heap.size u2 u2 := Below.refl _ _
          have hf : True := trivial
          have HBu0 := HBu
          have HBu : Hid (Below V.heap.size V u2) := Lib.hid (HBu0.out.trans (hb.mono HBu0.out.size))
          refine ⟨fun _ => HSS.out _ HBu.out, ?_⟩
          simp only [List.setIfInBounds_toArray, List.set_cons_zero, List.set_cons_succ]
          refine heldD_takeF (i := 5) (v := .int .i64 q) rfl rfl rfl (by kernel_rfl) (by kernel_rfl) (by kernel_rfl) (by kernel_rfl) (fun _ _ _ h => h) (by rfl) (fun w => ⟨by rfl, by go_simp⟩) (fun _ => HSS.out _ HBu.out) ?_
          simp only [List.setIfInBounds_toArray, List.set_cons_zero, List.set_cons_succ]
          have q := sv_3 _ HBu (Lib.hid hf)
          rw [HH.out, HT.out] at q
          simp only [List.setIfInBounds_toArray, List.set_cons_zero, List.set_cons_succ] at q ⊢
          exact q
        exact sv_ wk0 HBu
      clear HBu
      intro u bs HBu HF3 HF8 HF10
      rw [HH.out, HT.out]
      simp only [List.setIfInBounds_toArray, List.set_cons_zero, List.set_cons_succ]
      clear HH HT
      have hrowu := ownsRow_below HRow.out HBu.out
      obtain ⟨a2, n2, c2, w2', hr, ho, hg, hat⟩ := push_intG W10.heap.size (.slice va vn vc) L (q + pc) u bs hrowu HF10.out HLl.out (by have := HKV.out.size; have := HBu.out.size; omega)
      have old : ∀ {k : Nat} {cs : Array Value} {t : TypeId} {fr : Nat × Nat}, Blk V k cs t fr → k < W10.heap.size → Blk w2' k cs t fr := fun h hl => (hg.block _ (h.below HBu.out h.lt).lt (fun e => by have := (ownsRow_blk' hrowu e.symm).1; omega)).trans (h.below HBu.out h.lt)
      have z4 := old HBx.out HOld.out.2.2.2
      have hSw : w2'.cell? ⟨B4, 0, none⟩ = some (.slice va vn vc) ∧ w2'.cell? ⟨B12, 0, none⟩ = some (.func (.func 50) #[] #[.pointer (some ⟨q1, 0, none⟩), .pointer (some ⟨q2, 0, none⟩), .pointer (some ⟨q3, 0, none⟩)]) ∧ w2'.cell? ⟨B6, 0, none⟩ = some (.int .i64 (C : Nat)) ∧ w2'.cell? ⟨B11, 0, none⟩ = some (.func (.func 50) #[] #[.pointer (some ⟨p1, 0, none⟩), .pointer (some ⟨p2, 0, none⟩), .pointer (some ⟨p3, 0, none⟩)]) := ⟨z4.cell 0, (old HKs.out.2.2 HOld.out.2.2.1).cell 0, (old HKs.out.1 HOld.out.1).cell 0, (old HKs.out.2.1 HOld.out.2.1).cell 0⟩
      have m0 := z4.cell 0
      simp only [List.getElem?_toArray, List.getElem?_cons_zero] at m0
      have f0 := z4.free 0 (Or.inr (Nat.zero_le _))
      have hend := round_push (lo := w.heap.size) (Bn := Bm) (x := .slice a2 n2 c2) HBu.out hrowu hg HBx.out (by have := HZ.out; omega) HOld.out.2.2.2 (by have := HZ10.out; omega) HKV.out
      have hn2 : (Value.slice a2 n2 c2).oneCell' = true := rfl
      have hb4 : Blk (w2'.setCell ⟨B4, 0, none⟩ (.slice a2 n2 c2)) B4 #[.slice a2 n2 c2] 35 (0, 0) := z4.set 0 _
      have hrow4 := ownsRow_set ho (p := ⟨B4, 0, none⟩) z4 (show 35 ≠ 3 by decide) (.slice a2 n2 c2)
      have HR := Lib.hid hr; have HEnd := Lib.hid (And.intro hend (And.intro hb4 hrow4)); have HSw := Lib.hid hSw
      clear hr ho hg hat old z4 hSw hend hn2 hb4 hrow4 hrowu
      refine heldD_one (i := 11) (by kernel_rfl) ?_
      refine wpOpIn_append rfl rfl rfl (by rfl) _ _ _ _ rfl HR.out ?_
      refine ⟨fun _ => HSw.out, ?_⟩
      simp only [List.setIfInBounds_toArray, List.set_cons_zero, List.set_cons_succ]
      refine heldD_one (i := 12) (by kernel_rfl) ?_
      refine wpOpIn_skip (w' := w2'.setCell ⟨B4, 0, none⟩ (.slice a2 n2 c2)) rfl rfl rfl (by rfl) (by rfl) (by go_simp) ?_
      refine ⟨fun h => (by cases h), ?_⟩
      refine heldD_done (by kernel_rfl) ?_ _
      refine ⟨HEnd.out.1.1, HEnd.out.1.2.1, ⟨_, HEnd.out.2.1, ?_, ?_⟩, HEnd.out.1.2.2⟩
      · have e : (pre ++ [x]).map (fun (k : Fin N) => cellOf ex ey R C (f k)) = L ++ [q + pc] := by rw [List.map_append, HLe.out, List.map_cons, List.map_nil, HCe.out]
        rw [e]; exact HEnd.out.2.2
      · rw [List.length_append]; exact HLn.out
    case done2 =>
      rintro D2 xs V hD2 rfl ⟨⟨v, hv, hrow, _⟩, hKV⟩ hK2
      rw [← HMv.out] at hrow
      obtain ⟨va, vn, vc, rfl⟩ := hrow.one'
      have hc := hv.cell
      have hf := hv.frozen
      have hDl := (Array.getElem?_eq_some_iff.1 HM4.out.2.2.2.2.2.2).1
      have hD4 : D ≠ B4 := fun e => by
        have h1 := HM4.out.2.2.2.2.2.2
        rw [e, show W10.heap[B4]? = _ from HM4.out.1] at h1
        cases h1
      have hD24 : D2 ≠ B4 := fun e => by have := HM4.out.1.lt; omega
      have hKD : (V.setCell ⟨B4, 0, none⟩ (.slice va vn vc)).heap[D]? = some (.deferred (some [])) := (heap_setCell_other _ _ _ _ hD4).trans ((hKV.block D hDl hD4).trans HM4.out.2.2.2.2.2.2)
      have hKD2 : (V.setCell ⟨B4, 0, none⟩ (.slice va vn vc)).heap[D2]? = some (.deferred (some [])) := (heap_setCell_other _ _ _ _ hD24).trans hK2
      have hbV : Below w.heap.size W10 V := hKV.below hww.size (fun k e => by have := HZ.out; omega)
      have hbz := (hww.trans hbV).setCell (p := ⟨B4, 0, none⟩) (by have := HZ.out; show w.heap.size ≤ B4; omega) (.slice va vn vc)
      have hb4 : Blk (V.setCell ⟨B4, 0, none⟩ (.slice va vn vc)) B4 #[.slice va vn vc] 35 (0, 0) := Blk.set (show Blk V B4 #[.slice va vn vc] 35 (0, 0) from hv) 0 _
      have hrow4 := ownsRow_set hrow (p := ⟨B4, 0, none⟩) (show Blk V B4 #[.slice va vn vc] 35 (0, 0) from hv) (show 35 ≠ 3 by decide) (.slice va vn vc)
      have hMk : MarksAt w.heap.size (V.setCell ⟨B4, 0, none⟩ (.slice va vn vc)) [{ target := .collected D2, args := #[] }, { target := .collected D, args := #[] }] :=
        ⟨⟨D2, rfl, by have := hww.size; omega, hKD2, fun d' hd' D' e' => by
          obtain rfl := List.mem_singleton.1 hd'
          have : D = D' := by simpa using e'
          omega⟩, ⟨⟨D, rfl, by have := HZ.out; omega, hKD, fun d' hd' => by cases hd'⟩, trivial⟩⟩
      have HF := Lib.hid (And.intro hbz (And.intro hb4 (And.intro (ownsRow_le hrow4 hww.size) hMk)))
      clear hrow hKV hKD hKD2 hbV hbz hb4 hrow4 hMk hst2 hww k4 h4m
      gi_wp2
      refine leaves_marks (by simp) _ _ HF.out.2.2.2 HF.out.1 fun w' hk' hb' => ?_
      have hb4 := hk'.blk HF.out.2.1
      have hc4 := hb4.cell 0
      change w'.cell? ⟨B4, 0, none⟩ = some (.slice va vn vc) at hc4
      exact ⟨.slice va vn vc, by simp [results, Tryd.results14, hc4, go_sem], _, R, C, HS.out, rfl, ownsRow_agree' HF.out.2.2.1 (fun k hk => by obtain ⟨_, _, hq⟩ := ownsRow_blk' HF.out.2.2.1 hk; exact (hk'.blk hq).trans hq.symm), hb'⟩
end Go.Proofs.YtlddcnkiigamjaaDoor
