/- Texts of the law CellNorms, merged: GrWorksP, CellMade, CellIs, LawKit, LawKitD, CellWork, CellNorms, GrRead, CellNormsL. -/
import Derived.Test.YtjobijmmjebpaaaDoorPCellNorms04
import Derived.Test.YtjobijmmjebpaaaDoorPCellNorms06
import Derived.Test.YtjobijmmjebpaaaDoorPCellNorms10
import Derived.Test.YtjobijmmjebpaaaDoorRows
import Derived.WalkKit
import Derived.WalkSpells
import Derived.WalkLawsBesides
import Derived.ProofKit
import Derived.Lib.Hide
import Derived.OpenShut
import Derived.ChangeSame
import Derived.ChangeVars
import Derived.JoinedOf
import Derived.RowKit
import Derived.RowKitTokens
import Derived.LaidLaws
import Derived.LaidHandle
import Derived.Stop.Joined
import Derived.BigQuiet
import Derived.Deep.QuietTactic
import Derived.Test.YtjobijmmjebpaaaDoorPCellNorms02
import Derived.Test.YtjobijmmjebpaaaDoorPCellNorms00
/- rows that were just made -/
namespace Go.Proofs.YtjobijmmjebpaaaDoor
open Go.RowKit
theorem slX_new {w : World} {g n : Nat} {cs : Array Value} {t : TypeId} {fr : Nat × Nat} {L : List Int} (hb : Blk w g cs t fr) (hcs : cs = (L.flatMap inC).toArray) (hn : L.length = n) (hl : L.length ≤ 1000) : SlX w (.slice (some ⟨g, 0, none⟩) n n) L := by
  subst hn
  refine ⟨_, _, rfl, Nat.le_refl _, by unfold maxLen; omega, fun i hi => ⟨g, 0, cs, t, fr, rfl, hb, ?_⟩⟩
  have e := flatN_get 1 inC inC_len L i 0 (by omega)
  rw [Nat.mul_one, Nat.add_zero, List.getElem?_eq_getElem hi] at e
  rw [hcs, Nat.zero_add, List.getElem?_toArray, e]; rfl
theorem slA_new {w : World} {g n : Nat} {cs : Array Value} {t : TypeId} {fr : Nat × Nat} {L : List Ar} (hb : Blk w g cs t fr) (hcs : cs = (L.flatMap arC).toArray) (hn : L.length = n) (hl : L.length ≤ 1000) : SlA w (.slice (some ⟨g, 0, none⟩) n n) L := by
  subst hn
  have hc : ∀ i (hi : i < L.length) d, d < 3 → cs[0 + i * 3 + d]? = (arC L[i])[d]? := fun i hi d hd => by
    rw [hcs, Nat.zero_add, List.getElem?_toArray, flatN_get 3 arC arC_len L i d hd, List.getElem?_eq_getElem hi]; rfl
  exact ⟨_, _, rfl, Nat.le_refl _, by unfold maxLen; omega, fun i hi => ⟨g, 0, cs, t, fr, rfl, hb, hc i hi 0 (by omega), hc i hi 1 (by omega), hc i hi 2 (by omega)⟩⟩
theorem slX_nil (w : World) : SlX w (.slice none 0 0) [] := ⟨none, 0, rfl, Nat.le_refl _, Nat.zero_le _, fun i hi => by cases hi⟩
theorem slA_nil (w : World) : SlA w (.slice none 0 0) [] := ⟨none, 0, rfl, Nat.le_refl _, Nat.zero_le _, fun i hi => by cases hi⟩
end Go.Proofs.YtjobijmmjebpaaaDoor
/- the cell laws' made: a net of a graph that may be. -/
namespace Go.Proofs.YtjobijmmjebpaaaDoor
open Go.RowKit
theorem new_ok (v : Value) (r : Raw) (w : World) (hg : HG w) (h : RawV w v r) (hok : r.Ok) (hf : r.few) : Calls Tryd.prog 25 #[v] w fun e w' => ∃ p, e = .returned (.tuple #[.pointer (some ⟨p, 0, none⟩), .nilIface]) ∧ NetAt w' p r ∧ Below w.heap.size w w' := by
  refine (new_any v _ w hg h hf).mono ?_
  rintro e w' ⟨⟨hk, _⟩ | ⟨_, p, rfl, hn⟩, hb⟩
  · exact absurd ((Raw.ok_iff _).2 hok) hk
  · exact ⟨p, rfl, hn.at, hb⟩
set_option maxHeartbeats 4000000 in
theorem made_any (v : Value) (r : Raw) (w : World) (hg : HG w) (h : RawV w v r) (hok : r.Ok) (hf : r.few) : Calls Tryd.prog 8 #[v] w fun e w' => ∃ p, e = .returned (.pointer (some ⟨p, 0, none⟩)) ∧ NetAt w' p r ∧ Below w.heap.size w w' := by
  obtain ⟨vx, vy, vz, rfl, hx, hy, hz⟩ := id h
  obtain ⟨xa, xn, xc, rfl⟩ := hx.form
  obtain ⟨ya, yn, yc, rfl⟩ := hy.form
  obtain ⟨za, zn, zc, rfl⟩ := hz.form
  obtain ⟨w1, hw1⟩ : ∃ u, u = w.alloc (.cells #[.int .i64 r.nodes, .slice xa xn xc, .slice ya yn yc, .slice za zn zc] 26) := ⟨_, rfl⟩
  have hb1 : Below w.heap.size w w1 := by rw [hw1]; exact (Below.refl _ _).alloc (Nat.le_refl _) _
  have HC := Lib.hid (new_ok _ r w1 (hg.later hb1) (h.below hb1) hok hf)
  have HW := Lib.hid hw1; have HB := Lib.hid hb1
  clear hw1 hb1 h hx hy hz hg
  go_enter Tryd.func8, Tryd.ntmps8
  go_wp2_with fail
  rw [← HW.out]
  refine HC.out.mono ?_
  rintro e w2 ⟨p, rfl, hn, hb⟩
  have H := Lib.hid (And.intro hn (HB.out.next' hb))
  clear hn hb
  go_wp2_with fail
  go_ret
  exact ⟨p, rfl, H.out.1, H.out.2⟩
end Go.Proofs.YtjobijmmjebpaaaDoor
/- what cells tell, as the laws ask it: slices, their rows known. -/
namespace Go.Proofs.YtjobijmmjebpaaaDoor
open Go.RowKit
theorem norm_is {L R : List Int} (h : normV L = R) (hL : L.length ≤ 100000) (hwf : ∀ x ∈ L, (Lit.int .i64 x).wf = true) {va : Value} {w : World} (ha : SlX w va L) :
    Calls Tryd.prog 17 #[va] w fun e w' => ∃ a c, e = .returned (.slice a R.length c) ∧ SlX w' (.slice a R.length c) R ∧ Below w.heap.size w w' := by
  refine (cellNorm_any va L hL hwf w ha).mono ?_
  rintro e w' ⟨v, rfl, ho, hb⟩
  rw [h] at ho
  have hs := slX_own rfl ho
  obtain ⟨a, c, rfl, _⟩ := id hs
  exact ⟨a, c, rfl, hs, hb⟩
theorem new_is {L : List Int} {m : Int} (h : CellOk L) (hm : maxF L + 1 = m) (hL : L.length ≤ 100000) (hwf : ∀ x ∈ L, (Lit.int .i64 x).wf = true) {va : Value} {w : World} (ha : SlX w va L) :
    Calls Tryd.prog 11 #[va] w fun e w' => ∃ p, e = .returned (.pointer (some ⟨p, 0, none⟩)) ∧ CellsAt w' p L m ∧ Below w.heap.size w w' := by
  refine (cellNew_any va L hL hwf w ha).mono ?_
  rintro e w' ⟨⟨hn, _⟩ | ⟨_, p, rfl, _, hc⟩, hb⟩
  · exact absurd h hn
  · exact ⟨p, rfl, by rw [← hm]; exact hc, hb⟩
theorem new_no {L : List Int} (h : ¬ CellOk L) (hL : L.length ≤ 100000) (hwf : ∀ x ∈ L, (Lit.int .i64 x).wf = true) {va : Value} {w : World} (ha : SlX w va L) :
    Calls Tryd.prog 11 #[va] w fun e w' => e = .returned (.pointer none) ∧ Below w.heap.size w w' := by
  refine (cellNew_any va L hL hwf w ha).mono ?_
  rintro e w' ⟨⟨_, rfl⟩ | ⟨hk, _⟩, hb⟩
  · exact ⟨rfl, hb⟩
  · exact absurd hk h
theorem rows_is {A B : List Int} (h : A = B) {va vb : Value} {w : World} (ha : SlX w va A) (hb : SlX w vb B) : Calls Tryd.prog 18 #[va, vb] w fun e w' => e = .returned (.bool true) ∧ Below w.heap.size w w' := by
  have := rows_any va vb A B w ha hb
  rw [decide_eq_true h] at this
  exact this
theorem in_is {p : Nat} {L R : List Int} {many c : Int} (h : inV L c = R) (hL : L.length ≤ 1000000) {w : World} (hC : CellsAt w p L many) :
    Calls Tryd.prog 21 #[.pointer (some ⟨p, 0, none⟩), .int .i64 c] w fun e w' => ∃ a k, e = .returned (.slice a R.length k) ∧ SlX w' (.slice a R.length k) R ∧ Below w.heap.size w w' := by
  refine (in_any p L many c hL w hC).mono ?_
  rintro e w' ⟨v, rfl, ho, hb⟩
  rw [h] at ho
  have hs := slX_own rfl ho
  obtain ⟨a, k, rfl, _⟩ := id hs
  exact ⟨a, k, rfl, hs, hb⟩
theorem border_is {p n : Nat} {g : Raw} {L R : List Int} {many c : Int} (h : borderV g L c = R) (hok : g.Ok) (hal : g.arcs.length ≤ 1000000) (hLl : L.length ≤ 1000000) (hL : (L.length : Int) = g.nodes) {w : World} (hN : NetAt w n g) (hC : CellsAt w p L many) :
    Calls Tryd.prog 14 #[.pointer (some ⟨p, 0, none⟩), .pointer (some ⟨n, 0, none⟩), .int .i64 c] w fun e w' => ∃ a k, e = .returned (.slice a R.length k) ∧ SlX w' (.slice a R.length k) R ∧ Below w.heap.size w w' := by
  refine (border_any p n g L many c w hN hC hok hal hLl hL).mono ?_
  rintro e w' ⟨v, rfl, ho, hb⟩
  rw [h] at ho
  have hs := slX_own rfl ho
  obtain ⟨a, k, rfl, _⟩ := id hs
  exact ⟨a, k, rfl, hs, hb⟩
theorem cmap_is {p : Nat} {L : List Int} {many : Int} (hL : L.length ≤ 1000000) {w : World} (hC : CellsAt w p L many) :
    Calls Tryd.prog 19 #[.pointer (some ⟨p, 0, none⟩)] w fun e w' => ∃ a k, e = .returned (.slice a L.length k) ∧ SlX w' (.slice a L.length k) L ∧ w'.ownsRow w.heap.size 3 1 (.slice a L.length k) L.length (L.flatMap inC) ∧ Below w.heap.size w w' := by
  refine (cmap_any p L many w hC hL).mono ?_
  rintro e w' ⟨v, rfl, ho, hb⟩
  have hs := slX_own rfl ho
  obtain ⟨a, k, rfl, _⟩ := id hs
  exact ⟨a, k, rfl, hs, ho, hb⟩
theorem lit_wf : ∀ x ∈ ([] : List Int), (Lit.int .i64 x).wf = true := fun _ h => by cases h
end Go.Proofs.YtjobijmmjebpaaaDoor
/-
  WHAT EVERY LAW's PROOF OF THIS SEAT SHARES: from 'it returns true, and below the heap's size nothing has turned' to the row's own post; no argument need be shut again.
-/
namespace Go.Proofs.YtjobijmmjebpaaaDoor
open Go.ChangeShapes Go.WideShapes Go.ChangeAt Go.RowKit

theorem own : ownKnob Tryd.prog.godebug = none := by kernel_rfl
theorem laidOut : laidOutB Tryd.prog = true := by kernel_rfl

theorem okWide_agg {P : Program} {w : World} {r : Reach} {base : Nat} {t : TypeId} {v : Value} (ht : (∃ fs, P.underlying t = some (.struct fs)) ∨ (∃ n e, P.underlying t = some (.array n e))) (h : Value.okWide P w r base t v) : ∃ cs, v = .agg cs ∧ cs.size = P.cellsOf t := by
  rcases ht with ⟨fs, ht⟩ | ⟨n, e, ht⟩
  · exact okWide_struct ht h
  · simp only [Value.okWide, ht] at h
    obtain ⟨cs, h1, h2, _⟩ := h
    exact ⟨cs, h1, h2⟩

theorem trodAll_below {H : Type} {enc : TypeId × Value → H} {W W' : World} (hb : Below W.heap.size W W') :
    ∀ (ts : List TypeId) (vs : List Value) (ds : List (DataW H)) (ps : List MemPlace), (∀ t ∈ ts, Tryd.prog.readableRec t = true ∧ t < Tryd.prog.types.size) →
      (∀ x ∈ ps, x.block < W.heap.size) → DataW.TrodAll enc Tryd.prog W 0 (fun _ => true) true ts vs ds ps → DataW.TrodAll enc Tryd.prog W' 0 (fun b => decide (b < W.heap.size)) true ts vs ds ps := by
  intro ts
  induction ts with
  | nil => intro vs ds ps _ _ h; cases vs <;> cases ds <;> exact h
  | cons t ts ih =>
    intro vs ds ps hr hlt h
    obtain ⟨v, vs', d, ds', p, q, rfl, rfl, rfl, h1, h2⟩ := trodAll_cons h
    exact trodAll_cons_mk (Below.trod laidOut (hr t (by simp)).1 (hr t (by simp)).2 h1 hb (fun x hx => hlt x (by simp [hx])))
      (ih vs' ds' q (fun u hu => hr u (by simp [hu])) (fun x hx => hlt x (by simp [hx])) h2)

/-- THE POST OF A LAW's ROW -/
theorem law_post {H : Type} {enc : TypeId × Value → H} {f : Func} {s : ChangeSpec} {W W' : World} {args : Array Value} {ds gs : List (DataW H)} {before : List MemPlace} (tb : TypeId)
    (hbool : Tryd.prog.underlying tb = some .bool) (hres : f.resultTypes = #[tb]) (hr0 : (f.params.toList.all fun t => Tryd.prog.readableRec t && decide (t < Tryd.prog.types.size)) = true)
    (hv : s.vars = []) (hfn : (s.fn H (ds ++ gs)).results = [.lit (.bool true)]) (hfa : (s.fn H (ds ++ gs)).args = ds) (hfv : (s.fn H (ds ++ gs)).vars = [])
    (hW : DataW.Whole enc Tryd.prog f.params.toList s.vars false W args.toList ds gs before) (hb : Below W.heap.size W W') :
    s.post enc Tryd.prog f false true false false W args (.bool true) W' := by
  have hr : ∀ t ∈ f.params.toList, Tryd.prog.readableRec t = true ∧ t < Tryd.prog.types.size := fun t ht => by
    have := List.all_eq_true.1 hr0 t ht; simpa using this
  have hlt := hW.lt
  have hW' := hW
  obtain ⟨p, q, hA, hV, rfl, hz, hn⟩ := hW'
  rw [hv] at hV
  obtain ⟨rfl, rfl⟩ := trodVars_none hV
  refine ⟨ds, [], p ++ [], [], p, [], hW, ?_, ?_, ?_, hb.frame _, fun h => by cases h⟩
  · rw [hres, hfn]; exact trodAll_cons_mk (shut_bool hbool _) trodAll_mk0
  · rw [hfa]; exact trodAll_below hb _ _ _ _ hr (fun x hx => hlt x (by simpa using hx)) hA
  · rw [hfv, hv]; rfl
end Go.Proofs.YtjobijmmjebpaaaDoor
/- WHAT EVERY LAW's PROOF OF A TIED SEAT SHARES: the condition that the row lays, as the walks take it; a world that meets it. -/
namespace Go.Proofs.YtjobijmmjebpaaaDoor
open Go.ChangeShapes Go.WideShapes Go.ChangeAt Go.RowKit
theorem laid_et : Tryd.prog.globalNamed "errors.errorType" = some 0 := by kernel_rfl
theorem laid_rt : (Tryd.prog.cutTypes.find? (·.1 == "internal/reflectlite.rtype")).map (·.2) = some 129 := by kernel_rfl
theorem laid_row : ((List.range Tryd.prog.types.size).filter fun t => Tryd.prog.rowNamed t [101, 114, 114, 111, 114]) = [55] := by kernel_rfl
theorem HG.of_laid {W : World} (h : laidMetH Tryd.prog [("errors.errorType", Rows.laid_errors_errorType)] W) : HG W := by
  have h' : laidMet Tryd.prog [] W ∧ handlesMet Tryd.prog [("errors.errorType", Rows.laid_errors_errorType)] W := h
  obtain ⟨name, u, ty, e1, e2, e3, e4, e5⟩ := h'.2 _ (List.mem_singleton.2 rfl)
  have en : name = [101, 114, 114, 111, 114] := (Option.some.inj e1).symm
  subst en
  obtain rfl := Option.some.inj (laid_rt.symm.trans e2)
  have hm : ty ∈ (List.range Tryd.prog.types.size).filter fun t => Tryd.prog.rowNamed t [101, 114, 114, 111, 114] := List.mem_filter.2 ⟨List.mem_range.2 e3, e4⟩
  rw [laid_row] at hm
  obtain rfl := List.mem_singleton.1 hm
  have hh : typeHandle Tryd.prog 55 = .pointer (some ⟨1, 55, none⟩) := by kernel_rfl
  rw [hh] at e5
  simpa [HG] using World.var?_cell laid_et e5 0
/-- a world that meets the condition -/
noncomputable def laidWorld (os : Os) : World :=
  let w0 := World.holding Tryd.prog os ⟨#[], #[], []⟩
  { w0 with heap := w0.heap.modify 0 fun
      | .cells _ t frozen => .cells #[.iface 129 (.agg #[.pointer (some ⟨1, 55, none⟩)])] t frozen
      | o => o }
theorem laidWorld_met (os : Os) (args : Array Value) : laidMetH Tryd.prog [("errors.errorType", Rows.laid_errors_errorType)] ((laidWorld os).forCall (fun _ _ => 0) ⟨#[], args, []⟩).memory :=
  laidMetH_of_parts (laidMet_nil _ _) (by kernel_rfl)
end Go.Proofs.YtjobijmmjebpaaaDoor
/- the cell laws' works. -/
namespace Go.Proofs.YtjobijmmjebpaaaDoor
open Go.RowKit
def rW23 : Raw := ⟨3, [0, 0, 0], [0, 0, 0], [(0, 1, 0), (1, 2, 0), (2, 2, 0), (2, 0, 0)]⟩
theorem rW23_ok : rW23.Ok := by
  refine ⟨⟨by decide, by decide⟩, rfl, rfl, fun x hx => ?_, fun x hx => ?_, by decide, fun a ha => ?_⟩
  · simp [rW23] at hx; subst hx; unfold coordOk; omega
  · simp [rW23] at hx; subst hx; unfold coordOk; omega
  · simp [rW23] at ha; rcases ha with rfl | rfl | rfl | rfl <;> (unfold arcOk; decide)
set_option maxRecDepth 100000 in
set_option maxHeartbeats 8000000 in
theorem works23_any (w : World) (hg : HG w) : Calls Tryd.prog 16 #[] w fun e w' => e = .returned (.bool true) ∧ Below w.heap.size w w' := by
  have HG0 := Lib.hid hg
  clear hg
  obtain ⟨wa, hwa⟩ : ∃ u, u = (w.alloc (.cells #[.int .i64 0, .int .i64 0, .int .i64 0] 2)).alloc (.cells #[.int .i64 0, .int .i64 1, .int .i64 0, .int .i64 1, .int .i64 2, .int .i64 0, .int .i64 2, .int .i64 2, .int .i64 0, .int .i64 2, .int .i64 0, .int .i64 0] 45) := ⟨_, rfl⟩
  have hba : Below w.heap.size w wa := by rw [hwa]; exact ((Below.refl _ _).alloc (Nat.le_refl _) _).alloc (by simp) _
  have k1 : Blk wa w.heap.size #[.int .i64 0, .int .i64 0, .int .i64 0] 2 (0, 0) := by rw [hwa]; exact (Blk.new _ _ _ _).alloc _
  have k2 : Blk wa (w.heap.size + 1) #[.int .i64 0, .int .i64 1, .int .i64 0, .int .i64 1, .int .i64 2, .int .i64 0, .int .i64 2, .int .i64 2, .int .i64 0, .int .i64 2, .int .i64 0, .int .i64 0] 45 (0, 0) := by
    rw [hwa]
    have h := Blk.new (w.alloc (.cells #[.int .i64 0, .int .i64 0, .int .i64 0] 2)) #[.int .i64 0, .int .i64 1, .int .i64 0, .int .i64 1, .int .i64 2, .int .i64 0, .int .i64 2, .int .i64 2, .int .i64 0, .int .i64 2, .int .i64 0, .int .i64 0] 45 (0, 0)
    rwa [World.size_alloc] at h
  have HM := Lib.hid (made_any (.agg #[.int .i64 3, .slice (some ⟨w.heap.size, 0, none⟩) 3 3, .slice (some ⟨w.heap.size, 0, none⟩) 3 3, .slice (some ⟨w.heap.size + 1, 0, none⟩) 4 4]) rW23 wa (HG0.out.later hba) ⟨_, _, _, rfl, slX_new k1 rfl rfl (by decide), slX_new k1 rfl rfl (by decide), slA_new k2 rfl rfl (by decide)⟩ rW23_ok (by unfold Raw.few; decide))
  have HWa := Lib.hid hwa; have HBa := Lib.hid hba
  clear hwa hba k1 k2
  go_enter Tryd.func16, Tryd.ntmps16
  go_wp2_with fail
  rw [← HWa.out]
  refine HM.out.mono ?_
  rintro e wb ⟨q, rfl, hn, hb⟩
  have HN := Lib.hid hn
  have HBwb := Lib.hid (HBa.out.next' hb)
  clear hn hb HM HWa HBa
  obtain ⟨wl1, hwl1⟩ : ∃ x, x = wb.alloc (.cells #[.int .i64 0, .int .i64 0, .int .i64 1] 3) := ⟨_, rfl⟩
  have hbl : Below wb.heap.size wb wl1 := by rw [hwl1]; exact (Below.refl _ _).alloc (Nat.le_refl _) _
  have HL1 := Lib.hid (show SlX wl1 (.slice (some ⟨wb.heap.size, 0, none⟩) 3 3) ([0, 0, 1] : List Int) by rw [hwl1]; exact slX_new (Blk.new _ _ _ _) rfl rfl (by decide))
  have HW1 := Lib.hid hwl1
  have HBwl1 := Lib.hid (HBwb.out.next' hbl); clear HBwb
  have hN := HN.out.keep (KpC.of_below hbl); clear HN; have HN := Lib.hid hN; clear hN
  clear hwl1 hbl
  have HC := Lib.hid (new_is (L := [0, 0, 1]) (m := 2) (by unfold CellOk; decide +kernel) (by decide +kernel) (by decide) (by decide) HL1.out)
  go_wp2_with fail
  rw [← HW1.out]
  refine HC.out.mono ?_
  rintro e wc2 ⟨pc, rfl, hc, hb⟩
  have HBwc2 := Lib.hid (HBwl1.out.next' hb); clear HBwl1
  have hN := HN.out.keep (KpC.of_below hb); clear HN; have HN := Lib.hid hN; clear hN
  clear hb HC HW1
  have HCs := Lib.hid hc; clear hc
  obtain ⟨wl3, hwl3⟩ : ∃ x, x = wc2.alloc (.cells #[.int .i64 7, .int .i64 (-2), .int .i64 7, .int .i64 0] 3) := ⟨_, rfl⟩
  have hbl : Below wc2.heap.size wc2 wl3 := by rw [hwl3]; exact (Below.refl _ _).alloc (Nat.le_refl _) _
  have HL3 := Lib.hid (show SlX wl3 (.slice (some ⟨wc2.heap.size, 0, none⟩) 4 4) ([7, -2, 7, 0] : List Int) by rw [hwl3]; exact slX_new (Blk.new _ _ _ _) rfl rfl (by decide))
  have HW3 := Lib.hid hwl3
  have HBwl3 := Lib.hid (HBwc2.out.next' hbl); clear HBwc2
  have hN := HN.out.keep (KpC.of_below hbl); clear HN; have HN := Lib.hid hN; clear hN
  have hCs := HCs.out.keep (KpC.of_below hbl); clear HCs; have HCs := Lib.hid hCs; clear hCs
  clear hwl3 hbl
  have HC := Lib.hid (norm_is (L := [7, -2, 7, 0]) (R := [0, 1, 0, 2]) (by decide +kernel) (by decide) (by decide) HL3.out)
  go_wp2_with fail
  rw [← HW3.out]
  refine HC.out.mono ?_
  rintro e wc4 ⟨a1, c1, rfl, hs, hb⟩
  have HBwc4 := Lib.hid (HBwl3.out.next' hb); clear HBwl3
  have hN := HN.out.keep (KpC.of_below hb); clear HN; have HN := Lib.hid hN; clear hN
  have hCs := HCs.out.keep (KpC.of_below hb); clear HCs; have HCs := Lib.hid hCs; clear hCs
  clear hb HC HW3
  have HR := Lib.hid hs; clear hs
  obtain ⟨wl5, hwl5⟩ : ∃ x, x = wc4.alloc (.cells #[.int .i64 0, .int .i64 1, .int .i64 0, .int .i64 2] 3) := ⟨_, rfl⟩
  have hbl : Below wc4.heap.size wc4 wl5 := by rw [hwl5]; exact (Below.refl _ _).alloc (Nat.le_refl _) _
  have HL5 := Lib.hid (show SlX wl5 (.slice (some ⟨wc4.heap.size, 0, none⟩) 4 4) ([0, 1, 0, 2] : List Int) by rw [hwl5]; exact slX_new (Blk.new _ _ _ _) rfl rfl (by decide))
  have HW5 := Lib.hid hwl5
  have HBwl5 := Lib.hid (HBwc4.out.next' hbl); clear HBwc4
  have hN := HN.out.keep (KpC.of_below hbl); clear HN; have HN := Lib.hid hN; clear hN
  have hCs := HCs.out.keep (KpC.of_below hbl); clear HCs; have HCs := Lib.hid hCs; clear hCs
  have hR := HR.out.keep (KpC.of_below hbl); clear HR; have HR := Lib.hid hR; clear hR
  clear hwl5 hbl
  have HC := Lib.hid (rows_is (A := [0, 1, 0, 2]) rfl HR.out HL5.out)
  go_wp2_with fail
  rw [← HW5.out]
  refine HC.out.mono ?_
  rintro e wc6 ⟨rfl, hb⟩
  have HBwc6 := Lib.hid (HBwl5.out.next' hb); clear HBwl5
  have hN := HN.out.keep (KpC.of_below hb); clear HN; have HN := Lib.hid hN; clear hN
  have hCs := HCs.out.keep (KpC.of_below hb); clear HCs; have HCs := Lib.hid hCs; clear hCs
  have hR := HR.out.keep (KpC.of_below hb); clear HR; have HR := Lib.hid hR; clear hR
  clear hb HC HW5
  clear HR
  have HC := Lib.hid (many_any pc [0, 0, 1] 2 wc6 HCs.out)
  go_wp2_with fail
  refine HC.out.mono ?_
  rintro e wq ⟨rfl, hwq⟩
  subst wq
  clear HC
  have HC := Lib.hid (of_cell pc [0, 0, 1] 2 2 wc6 HCs.out)
  go_wp2_with fail
  refine HC.out.mono ?_
  rintro e wq ⟨rfl, hwq⟩
  subst wq
  clear HC
  have HC := Lib.hid (in_is (c := 0) (R := [0, 1]) (by decide +kernel) (by decide) HCs.out)
  go_wp2_with fail
  refine HC.out.mono ?_
  rintro e wc9 ⟨a1, c1, rfl, hs, hb⟩
  have HBwc9 := Lib.hid (HBwc6.out.next' hb); clear HBwc6
  have hN := HN.out.keep (KpC.of_below hb); clear HN; have HN := Lib.hid hN; clear hN
  have hCs := HCs.out.keep (KpC.of_below hb); clear HCs; have HCs := Lib.hid hCs; clear hCs
  clear hb HC
  have HR := Lib.hid hs; clear hs
  obtain ⟨wl10, hwl10⟩ : ∃ x, x = wc9.alloc (.cells #[.int .i64 0, .int .i64 1] 3) := ⟨_, rfl⟩
  have hbl : Below wc9.heap.size wc9 wl10 := by rw [hwl10]; exact (Below.refl _ _).alloc (Nat.le_refl _) _
  have HL10 := Lib.hid (show SlX wl10 (.slice (some ⟨wc9.heap.size, 0, none⟩) 2 2) ([0, 1] : List Int) by rw [hwl10]; exact slX_new (Blk.new _ _ _ _) rfl rfl (by decide))
  have HW10 := Lib.hid hwl10
  have HBwl10 := Lib.hid (HBwc9.out.next' hbl); clear HBwc9
  have hN := HN.out.keep (KpC.of_below hbl); clear HN; have HN := Lib.hid hN; clear hN
  have hCs := HCs.out.keep (KpC.of_below hbl); clear HCs; have HCs := Lib.hid hCs; clear hCs
  have hR := HR.out.keep (KpC.of_below hbl); clear HR; have HR := Lib.hid hR; clear hR
  clear hwl10 hbl
  have HC := Lib.hid (rows_is (A := [0, 1]) rfl HR.out HL10.out)
  go_wp2_with fail
  rw [← HW10.out]
  refine HC.out.mono ?_
  rintro e wc11 ⟨rfl, hb⟩
  have HBwc11 := Lib.hid (HBwl10.out.next' hb); clear HBwl10
  have hN := HN.out.keep (KpC.of_below hb); clear HN; have HN := Lib.hid hN; clear hN
  have hCs := HCs.out.keep (KpC.of_below hb); clear HCs; have HCs := Lib.hid hCs; clear hCs
  have hR := HR.out.keep (KpC.of_below hb); clear HR; have HR := Lib.hid hR; clear hR
  clear hb HC HW10
  clear HR
  obtain ⟨wl12, hwl12⟩ : ∃ x, x = wc11.alloc (.cells #[.int .i64 0, .int .i64 2, .int .i64 1] 3) := ⟨_, rfl⟩
  have hbl : Below wc11.heap.size wc11 wl12 := by rw [hwl12]; exact (Below.refl _ _).alloc (Nat.le_refl _) _
  have HL12 := Lib.hid (show SlX wl12 (.slice (some ⟨wc11.heap.size, 0, none⟩) 3 3) ([0, 2, 1] : List Int) by rw [hwl12]; exact slX_new (Blk.new _ _ _ _) rfl rfl (by decide))
  have HW12 := Lib.hid hwl12
  have HBwl12 := Lib.hid (HBwc11.out.next' hbl); clear HBwc11
  have hN := HN.out.keep (KpC.of_below hbl); clear HN; have HN := Lib.hid hN; clear hN
  have hCs := HCs.out.keep (KpC.of_below hbl); clear HCs; have HCs := Lib.hid hCs; clear hCs
  clear hwl12 hbl
  have HC := Lib.hid (new_no (L := [0, 2, 1]) (by unfold CellOk; decide +kernel) (by decide) (by decide) HL12.out)
  go_wp2_with fail
  rw [← HW12.out]
  refine HC.out.mono ?_
  rintro e wc13 ⟨rfl, hb⟩
  have HBwc13 := Lib.hid (HBwl12.out.next' hb); clear HBwl12
  have hN := HN.out.keep (KpC.of_below hb); clear HN; have HN := Lib.hid hN; clear hN
  have hCs := HCs.out.keep (KpC.of_below hb); clear HCs; have HCs := Lib.hid hCs; clear hCs
  clear hb HC HW12
  obtain ⟨wl14, hwl14⟩ : ∃ x, x = wc13.alloc (.cells #[.int .i64 1, .int .i64 0] 3) := ⟨_, rfl⟩
  have hbl : Below wc13.heap.size wc13 wl14 := by rw [hwl14]; exact (Below.refl _ _).alloc (Nat.le_refl _) _
  have HL14 := Lib.hid (show SlX wl14 (.slice (some ⟨wc13.heap.size, 0, none⟩) 2 2) ([1, 0] : List Int) by rw [hwl14]; exact slX_new (Blk.new _ _ _ _) rfl rfl (by decide))
  have HW14 := Lib.hid hwl14
  have HBwl14 := Lib.hid (HBwc13.out.next' hbl); clear HBwc13
  have hN := HN.out.keep (KpC.of_below hbl); clear HN; have HN := Lib.hid hN; clear hN
  have hCs := HCs.out.keep (KpC.of_below hbl); clear HCs; have HCs := Lib.hid hCs; clear hCs
  clear hwl14 hbl
  have HC := Lib.hid (new_no (L := [1, 0]) (by unfold CellOk; decide +kernel) (by decide) (by decide) HL14.out)
  go_wp2_with fail
  rw [← HW14.out]
  refine HC.out.mono ?_
  rintro e wc15 ⟨rfl, hb⟩
  have HBwc15 := Lib.hid (HBwl14.out.next' hb); clear HBwl14
  have hN := HN.out.keep (KpC.of_below hb); clear HN; have HN := Lib.hid hN; clear hN
  have hCs := HCs.out.keep (KpC.of_below hb); clear HCs; have HCs := Lib.hid hCs; clear hCs
  clear hb HC HW14
  have HC := Lib.hid (border_is (g := rW23) (c := 0) (R := [0]) (by decide +kernel) rW23_ok (by decide) (by decide) rfl HN.out HCs.out)
  go_wp2_with fail
  refine HC.out.mono ?_
  rintro e wc16 ⟨a1, c1, rfl, hs, hb⟩
  have HBwc16 := Lib.hid (HBwc15.out.next' hb); clear HBwc15
  have hN := HN.out.keep (KpC.of_below hb); clear HN; have HN := Lib.hid hN; clear hN
  have hCs := HCs.out.keep (KpC.of_below hb); clear HCs; have HCs := Lib.hid hCs; clear hCs
  clear hb HC
  have HR := Lib.hid hs; clear hs
  obtain ⟨wl17, hwl17⟩ : ∃ x, x = wc16.alloc (.cells #[.int .i64 0] 3) := ⟨_, rfl⟩
  have hbl : Below wc16.heap.size wc16 wl17 := by rw [hwl17]; exact (Below.refl _ _).alloc (Nat.le_refl _) _
  have HL17 := Lib.hid (show SlX wl17 (.slice (some ⟨wc16.heap.size, 0, none⟩) 1 1) ([0] : List Int) by rw [hwl17]; exact slX_new (Blk.new _ _ _ _) rfl rfl (by decide))
  have HW17 := Lib.hid hwl17
  have HBwl17 := Lib.hid (HBwc16.out.next' hbl); clear HBwc16
  have hN := HN.out.keep (KpC.of_below hbl); clear HN; have HN := Lib.hid hN; clear hN
  have hCs := HCs.out.keep (KpC.of_below hbl); clear HCs; have HCs := Lib.hid hCs; clear hCs
  have hR := HR.out.keep (KpC.of_below hbl); clear HR; have HR := Lib.hid hR; clear hR
  clear hwl17 hbl
  have HC := Lib.hid (rows_is (A := [0]) rfl HR.out HL17.out)
  go_wp2_with fail
  rw [← HW17.out]
  refine HC.out.mono ?_
  rintro e wc18 ⟨rfl, hb⟩
  have HBwc18 := Lib.hid (HBwl17.out.next' hb); clear HBwl17
  have hN := HN.out.keep (KpC.of_below hb); clear HN; have HN := Lib.hid hN; clear hN
  have hCs := HCs.out.keep (KpC.of_below hb); clear HCs; have HCs := Lib.hid hCs; clear hCs
  have hR := HR.out.keep (KpC.of_below hb); clear HR; have HR := Lib.hid hR; clear hR
  clear hb HC HW17
  clear HR
  have HC := Lib.hid (border_is (g := rW23) (c := 1) (R := [2]) (by decide +kernel) rW23_ok (by decide) (by decide) rfl HN.out HCs.out)
  go_wp2_with fail
  refine HC.out.mono ?_
  rintro e wc19 ⟨a1, c1, rfl, hs, hb⟩
  have HBwc19 := Lib.hid (HBwc18.out.next' hb); clear HBwc18
  have hN := HN.out.keep (KpC.of_below hb); clear HN; have HN := Lib.hid hN; clear hN
  have hCs := HCs.out.keep (KpC.of_below hb); clear HCs; have HCs := Lib.hid hCs; clear hCs
  clear hb HC
  have HR := Lib.hid hs; clear hs
  obtain ⟨wl20, hwl20⟩ : ∃ x, x = wc19.alloc (.cells #[.int .i64 2] 3) := ⟨_, rfl⟩
  have hbl : Below wc19.heap.size wc19 wl20 := by rw [hwl20]; exact (Below.refl _ _).alloc (Nat.le_refl _) _
  have HL20 := Lib.hid (show SlX wl20 (.slice (some ⟨wc19.heap.size, 0, none⟩) 1 1) ([2] : List Int) by rw [hwl20]; exact slX_new (Blk.new _ _ _ _) rfl rfl (by decide))
  have HW20 := Lib.hid hwl20
  have HBwl20 := Lib.hid (HBwc19.out.next' hbl); clear HBwc19
  have hN := HN.out.keep (KpC.of_below hbl); clear HN; have HN := Lib.hid hN; clear hN
  have hCs := HCs.out.keep (KpC.of_below hbl); clear HCs; have HCs := Lib.hid hCs; clear hCs
  have hR := HR.out.keep (KpC.of_below hbl); clear HR; have HR := Lib.hid hR; clear hR
  clear hwl20 hbl
  have HC := Lib.hid (rows_is (A := [2]) rfl HR.out HL20.out)
  go_wp2_with fail
  rw [← HW20.out]
  refine HC.out.mono ?_
  rintro e wc21 ⟨rfl, hb⟩
  have HBwc21 := Lib.hid (HBwl20.out.next' hb); clear HBwl20
  have hN := HN.out.keep (KpC.of_below hb); clear HN; have HN := Lib.hid hN; clear hN
  have hCs := HCs.out.keep (KpC.of_below hb); clear HCs; have HCs := Lib.hid hCs; clear hCs
  have hR := HR.out.keep (KpC.of_below hb); clear HR; have HR := Lib.hid hR; clear hR
  clear hb HC HW20
  clear HR
  go_wp2_with fail
  go_ret
  exact ⟨by simp, HBwc21.out⟩
end Go.Proofs.YtjobijmmjebpaaaDoor
/- CellNorms, its walk. -/
namespace Go.Proofs.YtjobijmmjebpaaaDoor
open Go.RowKit
theorem upto_slX {w : World} {a : Option Addr} {n cap : Nat} {L : List Int} (h : SlX w (.slice a n cap) L) (m : Nat) (hm : m ≤ L.length) : SlX w (.slice a m cap) (L.take m) := by
  obtain ⟨a', cap', e, h1, h2, h3⟩ := h
  simp only [Value.slice.injEq] at e
  obtain ⟨rfl, -, rfl⟩ := e
  have hl : (L.take m).length = m := by rw [List.length_take]; omega
  refine ⟨a, cap, by rw [hl], by omega, h2, fun i hi => ?_⟩
  obtain ⟨b, off, cs, t, fr, rfl, hb, hc⟩ := h3 i (by omega)
  exact ⟨b, off, cs, t, fr, rfl, hb, by rw [List.getElem_take]; exact hc⟩
def mostV (R : List Int) (k : Nat) : Int := (R.take k).foldl max (-1)
theorem mostV_succ {R : List Int} {k : Nat} (h : k < R.length) : mostV R (k + 1) = max (mostV R k) R[k] := by
  unfold mostV
  rw [List.take_succ_eq_append_getElem h, List.foldl_append]; rfl
theorem mostV_ok (A : List Int) {k : Nat} (h : k < (normV A).length) : 0 ≤ (normV A)[k] ∧ (normV A)[k] ≤ mostV (normV A) k + 1 := by
  have := normS_step A [] k _ (List.getElem?_eq_getElem (show k < (normS [] A).length from h))
  exact this
theorem mostV_range (A : List Int) : ∀ {k : Nat}, k ≤ (normV A).length → -1 ≤ mostV (normV A) k ∧ mostV (normV A) k < A.length
  | 0, _ => ⟨Int.le_refl _, by show (-1 : Int) < _; omega⟩
  | k + 1, h => by
    have ih := mostV_range A (k := k) (by omega)
    have h1 := norm_range (List.getElem_mem (show k < (normV A).length from h))
    rw [mostV_succ h]
    omega
theorem mostV_all {A : List Int} (h : A ≠ []) : mostV (normV A) (normV A).length = maxF (normV A) := by
  unfold mostV
  rw [List.take_length]
  cases hA : normV A with
  | nil =>
    have : (normV A).length = A.length := normS_len A []
    rw [hA] at this
    exact absurd (List.eq_nil_of_length_eq_zero this.symm) h
  | cons a L =>
    have h1 := norm_range (L := A) (x := a) (by rw [hA]; exact List.mem_cons_self)
    rw [List.foldl_cons, Int.max_eq_right (by omega)]
    rfl
theorem norm_wf {A : List Int} (hA : A.length ≤ 100000) : ∀ x ∈ normV A, (Lit.int .i64 x).wf = true := fun x hx => by
  have := norm_range hx
  exact wfInt (by omega)
set_option maxRecDepth 100000 in
set_option maxHeartbeats 8000000 in
theorem cellNorms_any (va : Value) (L : List Int) (hwf : ∀ x ∈ L, (Lit.int .i64 x).wf = true) (w : World) (ha : SlX w va L) (hg : HG w) : Calls Tryd.prog 4 #[va] w fun e w' => e = .returned (.bool true) ∧ Below w.heap.size w w' := by
  have HA0 := Lib.hid ha
  have HWk := Lib.hid (works23_any w hg)
  obtain ⟨ra, rc, rfl, hca, hma, _⟩ := ha
  unfold maxLen at hma
  clear hg
  obtain ⟨mr, hmr⟩ : ∃ m : Nat, m = min L.length 400 := ⟨_, rfl⟩
  have f1 : (if (400 : Int) < (L.length : Int) then (400 : Int) else (L.length : Int)) = (mr : Int) := by split <;> omega
  have f2 : (mr : Int) ≤ (rc : Int) := by omega
  have f3 : (0 : Int) ≤ (mr : Int) ∧ (mr : Int) ≤ 400 := by omega
  obtain ⟨A, hA⟩ : ∃ A, A = L.take mr := ⟨_, rfl⟩
  have hAl : A.length = mr := by rw [hA, List.length_take]; omega
  have hwA : ∀ x ∈ A, (Lit.int .i64 x).wf = true := fun x hx => hwf x (by rw [hA] at hx; exact List.mem_of_mem_take hx)
  have HSA := Lib.hid (show SlX w (.slice ra mr rc) A by rw [hA]; exact upto_slX HA0.out mr (by omega))
  have HAl := Lib.hid hAl; have HWf := Lib.hid hwA
  obtain ⟨R, hR⟩ : ∃ R, R = normV A := ⟨_, rfl⟩
  have hRl : R.length = mr := by rw [hR]; exact (normS_len A []).trans hAl
  have HR := Lib.hid hR; have HRl := Lib.hid hRl
  clear hA hAl hwA hwf hR hRl hmr hca hma HA0
  go_enter Tryd.func4, Tryd.ntmps4
  go_wp2_with fail
  refine HWk.out.mono ?_
  rintro e w1 ⟨rfl, hb⟩
  have HB1 := Lib.hid hb
  have HN := Lib.hid (show Calls Tryd.prog 17 #[.slice ra mr rc] w1 fun e w' => ∃ a c, e = .returned (.slice a mr c) ∧ SlX w' (.slice a mr c) R ∧ Below w1.heap.size w1 w' from by
    have := norm_is (L := A) (R := R) HR.out.symm (by have := HAl.out; omega) HWf.out (HSA.out.keep (KpC.of_below hb))
    rw [HRl.out] at this
    exact this)
  clear hb HWk
  go_wp2_with fail
  refine HN.out.mono ?_
  rintro e w2 ⟨a2, c2, rfl, hs, hb⟩
  have HB2 := Lib.hid (HB1.out.next' hb); have HS2 := Lib.hid hs
  have HN2 := Lib.hid (show Calls Tryd.prog 17 #[.slice a2 mr c2] w2 fun e w' => ∃ a c, e = .returned (.slice a mr c) ∧ SlX w' (.slice a mr c) R ∧ Below w2.heap.size w2 w' from by
    have := norm_is (L := R) (R := R) (by rw [HR.out]; exact norm_twice A) (by have := HRl.out; omega) (by rw [HR.out]; exact norm_wf (by have := HAl.out; omega)) hs
    rw [HRl.out] at this
    exact this)
  clear hb hs HN
  go_wp2_with fail
  refine HN2.out.mono ?_
  rintro e w3 ⟨a3, c3, rfl, hs, hb⟩
  have HB3 := Lib.hid (HB2.out.next' hb); have HS2b := Lib.hid (HS2.out.keep (KpC.of_below hb))
  have HRo := Lib.hid (rows_is (A := R) rfl hs HS2b.out)
  clear hb hs HN2 HS2
  go_wp2_with fail
  refine HRo.out.mono ?_
  rintro e w4 ⟨rfl, hb⟩
  have HB4 := Lib.hid (HB3.out.next' hb)
  have HSR := Lib.hid (HS2b.out.keep (KpC.of_below hb)); have HSA4 := Lib.hid (HSA.out.keep (KpC.of_below HB4.out))
  clear hb HRo HS2b HSA HB1 HB2 HB3
  go_wp2_with fail
  clear f1 f2
  have HCr := Lib.hid (show ∀ (k : Nat) (hk : k < R.length), ∃ b o, a2 = some ⟨b, o, none⟩ ∧ ∀ u : World, Below w4.heap.size w4 u → u.cell? ⟨b, o + k, none⟩ = some (.int .i64 R[k]) from fun k hk => by
    obtain ⟨b, o, e, _⟩ := HSR.out.at k hk
    subst e
    refine ⟨b, o, rfl, fun u hu => ?_⟩
    obtain ⟨b2, o2, e2, hc⟩ := (HSR.out.keep (KpC.of_below hu)).at k hk
    obtain ⟨rfl, rfl⟩ : b = b2 ∧ o = o2 := by simpa using e2
    exact hc)
  have HCa := Lib.hid (show ∀ (k : Nat) (hk : k < A.length), ∃ b o, ra = some ⟨b, o, none⟩ ∧ ∀ u : World, Below w4.heap.size w4 u → u.cell? ⟨b, o + k, none⟩ = some (.int .i64 A[k]) from fun k hk => by
    obtain ⟨b, o, e, _⟩ := HSA4.out.at k hk
    subst e
    refine ⟨b, o, rfl, fun u hu => ?_⟩
    obtain ⟨b2, o2, e2, hc⟩ := (HSA4.out.keep (KpC.of_below hu)).at k hk
    obtain ⟨rfl, rfl⟩ : b = b2 ∧ o = o2 := by simpa using e2
    exact hc)
  go_loopw [4, 5] (fun m i wr => ∃ (k : Nat) (x : Int), m = .int .i64 x ∧ i = .int .i64 k ∧ Hid (k ≤ mr ∧ x = mostV R k ∧ Below w4.heap.size w4 wr)) (fun _ i _ => mr - (intOf i).toNat)
  case atStart => exact ⟨0, -1, rfl, rfl, Lib.hid ⟨Nat.zero_le _, rfl, Below.refl _ _⟩⟩
  case round =>
    obtain ⟨k, x, rfl, rfl, HI⟩ := hrel
    obtain ⟨wo, hwo⟩ : ∃ u, u = wr := ⟨_, rfl⟩
    subst hwo
    have hxr : -1 ≤ x ∧ x < 400 := by
      have h1 := mostV_range A (k := k) (by have := HI.out.1; have := HRl.out; rw [← HR.out]; omega)
      rw [← HR.out, ← HI.out.2.1] at h1
      have := HAl.out
      omega
    by_cases hlt : k < mr
    · have hltI : (k : Int) < (mr : Int) := by omega
      have k0 : (0 : Int) ≤ (k : Int) := by omega
      have hkR : k < R.length := by have := HRl.out; omega
      have hkA : k < A.length := by have := HAl.out; omega
      obtain ⟨br, orr, e1, cr⟩ := HCr.out k hkR
      obtain ⟨bA, oA, e2, cA⟩ := HCa.out k hkA
      subst e1 e2
      obtain ⟨y, hy⟩ : ∃ y, y = R[k] := ⟨_, rfl⟩
      obtain ⟨p, hp⟩ : ∃ p, p = A[k] := ⟨_, rfl⟩
      rw [← hy] at cr
      rw [← hp] at cA
      have hyr : 0 ≤ y ∧ y ≤ x + 1 := by
        have h1 := mostV_ok A (k := k) (by rw [← HR.out]; exact hkR)
        simp only [← HR.out, ← hy, ← HI.out.2.1] at h1
        exact h1
      have HNx := Lib.hid (show max x y = mostV R (k + 1) by rw [mostV_succ hkR, ← hy, HI.out.2.1])
      obtain ⟨mx, hmx⟩ : ∃ m, (if x < y then y else x) = m := ⟨_, rfl⟩
      have HMx := Lib.hid (show mx = mostV R (k + 1) by rw [← HNx.out, ← hmx]; exact max_if x y)
      have HY := Lib.hid (And.intro hy hp)
      have hcr0 := cr wo HI.out.2.2
      have HCk := Lib.hid (And.intro cr cA)
      have t1 : ¬ y < 0 := by omega
      have t2 : ¬ x + 1 < y := by omega
      clear cr cA hy hp
      go_wp2_with fail
      clear hcr0 t1 t2 hmx
      go_loopw [6] (fun j wr => ∃ q : Nat, j = .int .i64 q ∧ Hid (q ≤ k ∧ Below w4.heap.size w4 wr)) (fun j _ => k - (intOf j).toNat)
      case atStart => exact ⟨0, rfl, Lib.hid ⟨Nat.zero_le _, HI.out.2.2⟩⟩
      case round =>
        obtain ⟨q, rfl, HJ⟩ := hrel
        by_cases hq : q < k
        · have hqI : (q : Int) < (k : Int) := by omega
          have hqM : (q : Int) < (mr : Int) := by omega
          have q0 : (0 : Int) ≤ (q : Int) := by omega
          have hqR : q < R.length := by have := HRl.out; omega
          have hqA : q < A.length := by have := HAl.out; omega
          obtain ⟨b3, o3, e3, c3'⟩ := HCr.out q hqR
          obtain ⟨b4, o4, e4, c4'⟩ := HCa.out q hqA
          obtain ⟨rfl, rfl⟩ : br = b3 ∧ orr = o3 := by simpa using e3
          obtain ⟨rfl, rfl⟩ : bA = b4 ∧ oA = o4 := by simpa using e4
          obtain ⟨z, hz⟩ : ∃ z, z = R[q] := ⟨_, rfl⟩
          obtain ⟨s, hs⟩ : ∃ s, s = A[q] := ⟨_, rfl⟩
          have hsame : y = z ↔ p = s := by
            have hkR : k < R.length := by have := HRl.out; omega
            have hkA : k < A.length := by have := HAl.out; omega
            refine norm_same (L := A) (v := k) (w := q) ?_ ?_ ?_ ?_
            · rw [← HR.out, List.getElem?_eq_getElem hkR, HY.out.1]
            · rw [← HR.out, List.getElem?_eq_getElem hqR, hz]
            · rw [List.getElem?_eq_getElem hkA, HY.out.2]
            · rw [List.getElem?_eq_getElem hqA, hs]
          have d1 := HCk.out.1 wr HJ.out.2; have d2 := HCk.out.2 wr HJ.out.2
          have d3 := c3' wr HJ.out.2; have d4 := c4' wr HJ.out.2
          rw [← hz] at d3
          rw [← hs] at d4
          clear hz hs c3' c4' e3 e4 hqR hqA
          by_cases hyz : y = z
          · have hps : p = s := hsame.1 hyz
            have b1 : (y == z) = true := by simpa using hyz
            have b2 : (p == s) = true := by simpa using hps
            clear hyz hps hsame
            go_wp2_with fail
            go_quiet (fail)
            go_wp2_with fail
            go_roundw
            case rel => exact ⟨q + 1, by go_num, Lib.hid ⟨by omega, below_drewN HJ.out.2 _⟩⟩
            case measure => simp [intOf]; omega
          · have hps : ¬ p = s := fun e => hyz (hsame.2 e)
            have b1 : (y == z) = false := by simpa using hyz
            have b2 : (p == s) = false := by simpa using hps
            clear hyz hps hsame
            go_wp2_with fail
            go_quiet (fail)
            go_wp2_with fail
            go_roundw
            case rel => exact ⟨q + 1, by go_num, Lib.hid ⟨by omega, below_drewN HJ.out.2 _⟩⟩
            case measure => simp [intOf]; omega
        · obtain rfl : q = k := by have := HJ.out.1; omega
          go_wp2_with fail
          go_roundw
          case rel => exact ⟨q + 1, _, rfl, by go_num, Lib.hid ⟨by omega, HMx.out, HJ.out.2⟩⟩
          case measure => simp [intOf]; omega
    · obtain rfl : k = mr := by have := HI.out.1; omega
      have HSRw := Lib.hid (HSR.out.keep (KpC.of_below HI.out.2.2))
      have HBw := Lib.hid (HB4.out.next' HI.out.2.2)
      by_cases hm0 : k = 0
      · subst hm0
        have hR0 : R = [] := List.eq_nil_of_length_eq_zero HRl.out
        have HC := Lib.hid (new_no (L := R) (fun h => h.1 hR0) (by have := HRl.out; omega) (by rw [hR0]; exact lit_wf) HSRw.out)
        clear hR0
        go_wp2_with fail
        refine HC.out.mono ?_
        rintro e w5 ⟨rfl, hb⟩
        have HB5 := Lib.hid (HBw.out.next' hb)
        clear hb HC
        go_wp2_with fail
        go_ret
        exact ⟨rfl, HB5.out⟩
      · have hA0 : A ≠ [] := fun e => hm0 (by have := HAl.out; rw [e] at this; exact this.symm)
        have hmx : x = maxF R := by
          have h1 := mostV_all hA0
          rw [← HR.out, HRl.out, ← HI.out.2.1] at h1
          exact h1
        have hRn : R ≠ [] := fun e => hm0 (by have := HRl.out; rw [e] at this; exact this.symm)
        have hnR : normV R = R := by rw [HR.out]; exact norm_twice A
        have hm1 : ((k : Int) == 0) = false := by rw [beq_eq_false_iff_ne]; omega
        have hwR : ∀ x ∈ R, (Lit.int .i64 x).wf = true := by rw [HR.out]; exact norm_wf (by have := HAl.out; omega)
        have HRn := Lib.hid (And.intro hRn (And.intro hnR (And.intro hmx hwR)))
        clear hA0 hmx hRn hnR hwR
        by_cases hx : x < 256
        · have HC := Lib.hid (new_is (L := R) (m := x + 1) ⟨HRn.out.1, HRn.out.2.1, by rw [← HRn.out.2.2.1]; exact hx⟩ (by rw [← HRn.out.2.2.1]) (by have := HRl.out; omega) HRn.out.2.2.2 HSRw.out)
          have hx2 : ¬ (256 : Int) ≤ x := by omega
          go_wp2_with fail
          refine HC.out.mono ?_
          rintro e w5 ⟨pc, rfl, hc, hb⟩
          have HB5 := Lib.hid (HBw.out.next' hb)
          have HM := Lib.hid (many_any pc R (x + 1) w5 hc)
          have HMp := Lib.hid (cmap_is (by have := HRl.out; omega) hc)
          have HSR5 := Lib.hid (HSRw.out.keep (KpC.of_below hb))
          clear hb HC hc
          go_wp2_with fail
          refine HM.out.mono ?_
          rintro e wq ⟨rfl, hwq⟩
          subst wq
          clear HM
          go_wp2_with fail
          refine HMp.out.mono ?_
          rintro e w6 ⟨a6, c6, rfl, hs6, _, hb⟩
          have HB6 := Lib.hid (HB5.out.next' hb)
          have HRo := Lib.hid (rows_is (A := R) rfl hs6 (HSR5.out.keep (KpC.of_below hb)))
          clear hb hs6 HMp
          go_wp2_with fail
          refine HRo.out.mono ?_
          rintro e w7 ⟨rfl, hb⟩
          have HB7 := Lib.hid (HB6.out.next' hb)
          clear hb HRo
          go_wp2_with fail
          go_ret
          exact ⟨rfl, HB7.out⟩
        · have HC := Lib.hid (new_no (L := R) (fun h => hx (by rw [HRn.out.2.2.1]; exact h.2.2)) (by have := HRl.out; omega) HRn.out.2.2.2 HSRw.out)
          have hx2 : (256 : Int) ≤ x := by omega
          go_wp2_with fail
          refine HC.out.mono ?_
          rintro e w5 ⟨rfl, hb⟩
          have HB5 := Lib.hid (HBw.out.next' hb)
          clear hb HC
          go_wp2_with fail
          go_ret
          exact ⟨rfl, HB5.out⟩
end Go.Proofs.YtjobijmmjebpaaaDoor
/- an argument that is a raw graph; one of three numbers. -/
namespace Go.Proofs.YtjobijmmjebpaaaDoor
open Go.RowKit Go.Deep
theorem blk_of_cell {w : World} {b i : Nat} {v : Value} (h : w.cell? ⟨b, i, none⟩ = some v) : ∃ cs t fr, Blk w b cs t fr ∧ cs[i]? = some v := by
  unfold World.cell? at h
  split at h
  · rename_i cs t fr hb
    exact ⟨cs, t, fr, hb, h⟩
  · cases h
theorem blk_cell_same {w : World} {b i : Nat} {cs : Array Value} {t : TypeId} {fr : Nat × Nat} {v : Value} (hb : Blk w b cs t fr) (h : w.cell? ⟨b, i, none⟩ = some v) : cs[i]? = some v := by
  rw [hb.cell] at h; exact h
theorem SlX.of_I {w : World} {v : Value} {L : List Int} (h : SlI w v .i64 L) : SlX w v L := by
  obtain ⟨a, cap, rfl, h1, h2, h3⟩ := h
  refine ⟨a, cap, rfl, h1, h2, fun i hi => ?_⟩
  obtain ⟨b, off, ha, hc⟩ := h3 i hi
  obtain ⟨cs, t, fr, hb, hx⟩ := blk_of_cell hc
  exact ⟨b, off, cs, t, fr, ha, hb, hx⟩
theorem three_of {α : Type} : ∀ {l : List α}, l.length = 3 → ∃ a b c, l = [a, b, c]
  | [a, b, c], _ => ⟨a, b, c, rfl⟩
theorem four_of {α : Type} : ∀ {l : List α}, l.length = 4 → ∃ a b c d, l = [a, b, c, d]
  | [a, b, c, d], _ => ⟨a, b, c, d, rfl⟩
theorem Rd.arc {w : World} {es : List Value} (h : Rd Tryd.prog w 45 es) : ∃ a : Ar, es = arC a := by
  obtain ⟨hl, _⟩ := Rd.struct Tryd.underlying45 h
  obtain ⟨e0, e1, e2, rfl⟩ := three_of (hl.trans (show Tryd.prog.cellsOf 45 = 3 by kernel_rfl))
  clear hl
  · skip
    obtain ⟨n0, h0, _⟩ := Rd.int (k := .i64) Tryd.underlying3 (Rd.field (e := 3) (c := e0) Tryd.underlying45 h 0 (by kernel_rfl) (by kernel_rfl) rfl)
    obtain ⟨n1, h1, _⟩ := Rd.int (k := .i64) Tryd.underlying3 (Rd.field (e := 3) (c := e1) Tryd.underlying45 h 1 (by kernel_rfl) (by kernel_rfl) rfl)
    obtain ⟨n2, h2, _⟩ := Rd.int (k := .i64) Tryd.underlying2 (Rd.field (e := 2) (c := e2) Tryd.underlying45 h 2 (by kernel_rfl) (by kernel_rfl) rfl)
    cases h0; cases h1; cases h2
    exact ⟨(n0, n1, n2), rfl⟩
theorem Rd.arcs {w : World} {v : Value} (h : Rd Tryd.prog w 24 [v]) : ∃ L : List Ar, SlA w v L := by
  obtain ⟨a, len, cap, h1, hl, hm, hel⟩ := Rd.slice Tryd.underlying24 (by rw [show Tryd.prog.cellsOf 45 = 3 by kernel_rfl]; omega) h
  have hc : Tryd.prog.cellsOf 45 = 3 := by kernel_rfl
  have hex : ∀ i, i < len → ∃ x : Ar, ∃ b off cs t fr, a = some ⟨b, off, none⟩ ∧ Blk w b cs t fr ∧ cs[off + i * 3]? = some (.int .i64 x.1) ∧ cs[off + i * 3 + 1]? = some (.int .i64 x.2.1) ∧ cs[off + i * 3 + 2]? = some (.int .i64 x.2.2) := fun i hi => by
    obtain ⟨b, off, ha, es, hes, hcell, hrd⟩ := hel i hi
    obtain ⟨x, rfl⟩ := Rd.arc hrd
    rw [hc] at hcell
    have c0 := hcell 0 (by omega); have c1 := hcell 1 (by omega); have c2 := hcell 2 (by omega)
    obtain ⟨cs, t, fr, hb, hx⟩ := blk_of_cell (c0.trans (show (arC x)[0]? = some (.int .i64 x.1) from rfl))
    exact ⟨x, b, off, cs, t, fr, ha, hb, hx, blk_cell_same hb (c1.trans rfl), blk_cell_same hb (c2.trans rfl)⟩
  obtain ⟨f, hf⟩ := choose_lt hex
  have hv : v = .slice a len cap := by simpa using h1
  refine ⟨(List.range len).map f, a, cap, by rw [hv]; simp, by simpa using hl, hm, fun i hi => ?_⟩
  have hi' : i < len := by simpa using hi
  obtain ⟨b, off, cs, t, fr, ha, hb, h0, h1, h2⟩ := hf i hi'
  exact ⟨b, off, cs, t, fr, ha, hb, by simpa using h0, by simpa using h1, by simpa using h2⟩
/-- a raw graph as an argument -/
theorem Rd.raw {w : World} {cs : Array Value} (h : Rd Tryd.prog w 26 cs.toList) : ∃ r : Raw, RawV w (.agg cs) r := by
  obtain ⟨es⟩ := cs
  obtain ⟨hl, _⟩ := Rd.struct Tryd.underlying26 h
  obtain ⟨e0, e1, e2, e3, rfl⟩ := four_of (hl.trans (show Tryd.prog.cellsOf 26 = 4 by kernel_rfl))
  clear hl
  · skip
    obtain ⟨n, h0, _⟩ := Rd.int (k := .i64) Tryd.underlying3 (Rd.field (e := 3) (c := e0) Tryd.underlying26 h 0 (by kernel_rfl) (by kernel_rfl) rfl)
    obtain ⟨X, hX, _⟩ := Rd.ints (k := .i64) Tryd.underlying23 Tryd.underlying2 (by kernel_rfl) (Rd.field (e := 23) (c := e1) Tryd.underlying26 h 1 (by kernel_rfl) (by kernel_rfl) rfl)
    obtain ⟨Y, hY, _⟩ := Rd.ints (k := .i64) Tryd.underlying23 Tryd.underlying2 (by kernel_rfl) (Rd.field (e := 23) (c := e2) Tryd.underlying26 h 2 (by kernel_rfl) (by kernel_rfl) rfl)
    obtain ⟨L, hL⟩ := Rd.arcs (Rd.field (e := 24) (c := e3) Tryd.underlying26 h 3 (by kernel_rfl) (by kernel_rfl) rfl)
    cases h0
    exact ⟨⟨n, X, Y, L⟩, e1, e2, e3, rfl, SlX.of_I hX, SlX.of_I hY, hL⟩
end Go.Proofs.YtjobijmmjebpaaaDoor
/- CellNorms: its argument read. -/
namespace Go.Proofs.YtjobijmmjebpaaaDoor
open Go.RowKit
theorem cellNorms_rd (v0 : Value) (W : World) (R0 : Rd Tryd.prog W 30 [v0]) (hg : HG W) : Calls Tryd.prog 4 #[v0] W fun e w' => e = .returned (.bool true) ∧ Below W.heap.size W w' := by
  obtain ⟨X, hX, hw⟩ := Rd.ints (k := .i64) Tryd.underlying30 Tryd.underlying3 (by kernel_rfl) R0
  exact cellNorms_any v0 X hw W (SlX.of_I hX) hg
end Go.Proofs.YtjobijmmjebpaaaDoor
