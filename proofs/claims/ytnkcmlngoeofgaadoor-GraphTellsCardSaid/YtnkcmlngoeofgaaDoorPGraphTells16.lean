/- Texts of the law GraphTells, merged: GrRead, GrTellsL, LawKit, LawKitD. -/
import Derived.Test.YtnkcmlngoeofgaaDoorPGraphTells02
import Derived.Test.YtnkcmlngoeofgaaDoorPGraphTells00
import Derived.Test.YtnkcmlngoeofgaaDoorPGraphTells15
import Derived.Test.YtnkcmlngoeofgaaDoorRows
import Derived.WalkKit
import Derived.WalkSpells
import Derived.WalkLawsBesides
import Derived.ProofKit
import Derived.Lib.Hide
import Derived.OpenShut
import Derived.Test.YtnkcmlngoeofgaaDoorPGraphTells04
import Derived.ChangeSame
import Derived.ChangeVars
import Derived.JoinedOf
import Derived.RowKit
import Derived.RowKitTokens
import Derived.LaidLaws
import Derived.LaidHandle
import Derived.Stop.Joined
/- an argument that is a raw graph; one of three numbers. -/
namespace Go.Proofs.YtnkcmlngoeofgaaDoor
open Go.RowKit Go.Deep
theorem blk_of_cell {w : World} {b i : Nat} {v : Value} (h : w.cell? ⟨b, i, none⟩ = some v) : ∃ cs t fr, Blk w b cs t fr ∧ cs[i]? = some v := by
  unfold World.cell? at h
  split at h
  · rename_i cs t fr hb
    exact ⟨cs, t, fr, hb, h⟩
  · cases h
theorem blk_cell_same {w : World} {b i : Nat} {cs : Array Value} {t : TypeId} {fr : Nat × Nat} {v : Value} (hb : Blk w b cs t fr) (h : w.cell? ⟨b, i, none⟩ = some v) : cs[i]? = some v := by
  rw [hb.cell] at h; exact h
theorem SlX.of_I {w : World} {v : Value} {L : List Int} (h : SlI w v .i64 L) : SlX w v L := by
  obtain ⟨a, cap, rfl, h1, h2, h3⟩ := h
  refine ⟨a, cap, rfl, h1, h2, fun i hi => ?_⟩
  obtain ⟨b, off, ha, hc⟩ := h3 i hi
  obtain ⟨cs, t, fr, hb, hx⟩ := blk_of_cell hc
  exact ⟨b, off, cs, t, fr, ha, hb, hx⟩
theorem three_of {α : Type} : ∀ {l : List α}, l.length = 3 → ∃ a b c, l = [a, b, c]
  | [a, b, c], _ => ⟨a, b, c, rfl⟩
theorem four_of {α : Type} : ∀ {l : List α}, l.length = 4 → ∃ a b c d, l = [a, b, c, d]
  | [a, b, c, d], _ => ⟨a, b, c, d, rfl⟩
theorem Rd.arc {w : World} {es : List Value} (h : Rd Tryd.prog w 54 es) : ∃ a : Ar, es = arC a := by
  obtain ⟨hl, _⟩ := Rd.struct Tryd.underlying54 h
  obtain ⟨e0, e1, e2, rfl⟩ := three_of (hl.trans (show Tryd.prog.cellsOf 54 = 3 by kernel_rfl))
  clear hl
  · skip
    obtain ⟨n0, h0, _⟩ := Rd.int (k := .i64) Tryd.underlying3 (Rd.field (e := 3) (c := e0) Tryd.underlying54 h 0 (by kernel_rfl) (by kernel_rfl) rfl)
    obtain ⟨n1, h1, _⟩ := Rd.int (k := .i64) Tryd.underlying3 (Rd.field (e := 3) (c := e1) Tryd.underlying54 h 1 (by kernel_rfl) (by kernel_rfl) rfl)
    obtain ⟨n2, h2, _⟩ := Rd.int (k := .i64) Tryd.underlying2 (Rd.field (e := 2) (c := e2) Tryd.underlying54 h 2 (by kernel_rfl) (by kernel_rfl) rfl)
    cases h0; cases h1; cases h2
    exact ⟨(n0, n1, n2), rfl⟩
theorem Rd.arcs {w : World} {v : Value} (h : Rd Tryd.prog w 23 [v]) : ∃ L : List Ar, SlA w v L := by
  obtain ⟨a, len, cap, h1, hl, hm, hel⟩ := Rd.slice Tryd.underlying23 (by rw [show Tryd.prog.cellsOf 54 = 3 by kernel_rfl]; omega) h
  have hc : Tryd.prog.cellsOf 54 = 3 := by kernel_rfl
  have hex : ∀ i, i < len → ∃ x : Ar, ∃ b off cs t fr, a = some ⟨b, off, none⟩ ∧ Blk w b cs t fr ∧ cs[off + i * 3]? = some (.int .i64 x.1) ∧ cs[off + i * 3 + 1]? = some (.int .i64 x.2.1) ∧ cs[off + i * 3 + 2]? = some (.int .i64 x.2.2) := fun i hi => by
    obtain ⟨b, off, ha, es, hes, hcell, hrd⟩ := hel i hi
    obtain ⟨x, rfl⟩ := Rd.arc hrd
    rw [hc] at hcell
    have c0 := hcell 0 (by omega); have c1 := hcell 1 (by omega); have c2 := hcell 2 (by omega)
    obtain ⟨cs, t, fr, hb, hx⟩ := blk_of_cell (c0.trans (show (arC x)[0]? = some (.int .i64 x.1) from rfl))
    exact ⟨x, b, off, cs, t, fr, ha, hb, hx, blk_cell_same hb (c1.trans rfl), blk_cell_same hb (c2.trans rfl)⟩
  obtain ⟨f, hf⟩ := choose_lt hex
  have hv : v = .slice a len cap := by simpa using h1
  refine ⟨(List.range len).map f, a, cap, by rw [hv]; simp, by simpa using hl, hm, fun i hi => ?_⟩
  have hi' : i < len := by simpa using hi
  obtain ⟨b, off, cs, t, fr, ha, hb, h0, h1, h2⟩ := hf i hi'
  exact ⟨b, off, cs, t, fr, ha, hb, by simpa using h0, by simpa using h1, by simpa using h2⟩
/-- a raw graph as an argument -/
theorem Rd.raw {w : World} {cs : Array Value} (h : Rd Tryd.prog w 25 cs.toList) : ∃ r : Raw, RawV w (.agg cs) r := by
  obtain ⟨es⟩ := cs
  obtain ⟨hl, _⟩ := Rd.struct Tryd.underlying25 h
  obtain ⟨e0, e1, e2, e3, rfl⟩ := four_of (hl.trans (show Tryd.prog.cellsOf 25 = 4 by kernel_rfl))
  clear hl
  · skip
    obtain ⟨n, h0, _⟩ := Rd.int (k := .i64) Tryd.underlying3 (Rd.field (e := 3) (c := e0) Tryd.underlying25 h 0 (by kernel_rfl) (by kernel_rfl) rfl)
    obtain ⟨X, hX, _⟩ := Rd.ints (k := .i64) Tryd.underlying22 Tryd.underlying2 (by kernel_rfl) (Rd.field (e := 22) (c := e1) Tryd.underlying25 h 1 (by kernel_rfl) (by kernel_rfl) rfl)
    obtain ⟨Y, hY, _⟩ := Rd.ints (k := .i64) Tryd.underlying22 Tryd.underlying2 (by kernel_rfl) (Rd.field (e := 22) (c := e2) Tryd.underlying25 h 2 (by kernel_rfl) (by kernel_rfl) rfl)
    obtain ⟨L, hL⟩ := Rd.arcs (Rd.field (e := 23) (c := e3) Tryd.underlying25 h 3 (by kernel_rfl) (by kernel_rfl) rfl)
    cases h0
    exact ⟨⟨n, X, Y, L⟩, e1, e2, e3, rfl, SlX.of_I hX, SlX.of_I hY, hL⟩
end Go.Proofs.YtnkcmlngoeofgaaDoor
/- GraphTells: its arguments read. -/
namespace Go.Proofs.YtnkcmlngoeofgaaDoor
open Go.RowKit
theorem nine_of {α : Type} : ∀ {l : List α}, l.length = 9 → ∃ a b c d e f g h i, l = [a, b, c, d, e, f, g, h, i]
  | [a, b, c, d, e, f, g, h, i], _ => ⟨a, b, c, d, e, f, g, h, i, rfl⟩
theorem Rd.turn {w : World} {e0 e1 e2 : Value} (h : Rd Tryd.prog w 42 [e0, e1, e2]) : ∃ (p q : Nat) (m : Int), e0 = .int .u8 (p : Nat) ∧ e1 = .int .u8 (q : Nat) ∧ e2 = .int .i64 m ∧ p < 256 ∧ q < 256 := by
  have rd : ∀ {c : Value}, Rd Tryd.prog w 5 [c] → ∃ n : Nat, c = .int .u8 (n : Nat) ∧ n < 256 := fun h => by
    obtain ⟨x, e, m⟩ := Rd.int (k := .u8) Tryd.underlying5 h
    have bd : 0 ≤ x ∧ x ≤ 255 := by simpa [Lit.wf, IntKind.min, IntKind.max, IntKind.signed, IntKind.bits] using m
    obtain ⟨k, rfl⟩ := Int.eq_ofNat_of_zero_le bd.1
    exact ⟨k, by cases e; rfl, by omega⟩
  obtain ⟨p, h0, l0⟩ := rd (Rd.field (e := 5) (c := e0) Tryd.underlying42 h 0 (by kernel_rfl) (by kernel_rfl) rfl)
  obtain ⟨q, h1, l1⟩ := rd (Rd.field (e := 5) (c := e1) Tryd.underlying42 h 1 (by kernel_rfl) (by kernel_rfl) rfl)
  obtain ⟨m, h2, _⟩ := Rd.int (k := .i64) Tryd.underlying2 (Rd.field (e := 2) (c := e2) Tryd.underlying42 h 2 (by kernel_rfl) (by kernel_rfl) rfl)
  cases h2
  exact ⟨p, q, m, h0, h1, rfl, l0, l1⟩
theorem graphTells_rd (cs0 : Array Value) (n : Nat) (cs2 : Array Value) (W : World) (R0 : Rd Tryd.prog W 25 cs0.toList) (ln : n < 256) (R2 : Rd Tryd.prog W 43 cs2.toList) (hg : HG W) : Calls Tryd.prog 4 #[.agg cs0, .int .u8 (n : Nat), .agg cs2] W fun e w' => e = .returned (.bool true) ∧ Below W.heap.size W w' := by
  obtain ⟨r, hr⟩ := Rd.raw R0
  obtain ⟨es⟩ := cs2
  obtain ⟨hl, hA⟩ := Rd.array Tryd.underlying43 R2
  obtain ⟨e0, e1, e2, e3, e4, e5, e6, e7, e8, rfl⟩ := nine_of (hl.trans (show Tryd.prog.cellsOf 43 = 9 by kernel_rfl))
  rw [show Tryd.prog.cellsOf 42 = 3 by kernel_rfl] at hA
  obtain ⟨p0, q0, m0, rfl, rfl, rfl, a0, b0⟩ := Rd.turn (hA 0 (by omega))
  obtain ⟨p1, q1, m1, rfl, rfl, rfl, a1, b1⟩ := Rd.turn (hA 1 (by omega))
  obtain ⟨p2, q2, m2, rfl, rfl, rfl, a2, b2⟩ := Rd.turn (hA 2 (by omega))
  exact graphTells_any (.agg cs0) r n p0 q0 p1 q1 p2 q2 m0 m1 m2 W hr ln a0 b0 a1 b1 a2 b2 hg
end Go.Proofs.YtnkcmlngoeofgaaDoor
/-
  WHAT EVERY LAW's PROOF OF THIS SEAT SHARES: from 'it returns true, and below the heap's size nothing has turned' to the row's own post; no argument need be shut again.
-/
namespace Go.Proofs.YtnkcmlngoeofgaaDoor
open Go.ChangeShapes Go.WideShapes Go.ChangeAt Go.RowKit

theorem own : ownKnob Tryd.prog.godebug = none := by kernel_rfl
theorem laidOut : laidOutB Tryd.prog = true := by kernel_rfl

theorem okWide_agg {P : Program} {w : World} {r : Reach} {base : Nat} {t : TypeId} {v : Value} (ht : (∃ fs, P.underlying t = some (.struct fs)) ∨ (∃ n e, P.underlying t = some (.array n e))) (h : Value.okWide P w r base t v) : ∃ cs, v = .agg cs ∧ cs.size = P.cellsOf t := by
  rcases ht with ⟨fs, ht⟩ | ⟨n, e, ht⟩
  · exact okWide_struct ht h
  · simp only [Value.okWide, ht] at h
    obtain ⟨cs, h1, h2, _⟩ := h
    exact ⟨cs, h1, h2⟩

theorem trodAll_below {H : Type} {enc : TypeId × Value → H} {W W' : World} (hb : Below W.heap.size W W') :
    ∀ (ts : List TypeId) (vs : List Value) (ds : List (DataW H)) (ps : List MemPlace), (∀ t ∈ ts, Tryd.prog.readableRec t = true ∧ t < Tryd.prog.types.size) →
      (∀ x ∈ ps, x.block < W.heap.size) → DataW.TrodAll enc Tryd.prog W 0 (fun _ => true) true ts vs ds ps → DataW.TrodAll enc Tryd.prog W' 0 (fun b => decide (b < W.heap.size)) true ts vs ds ps := by
  intro ts
  induction ts with
  | nil => intro vs ds ps _ _ h; cases vs <;> cases ds <;> exact h
  | cons t ts ih =>
    intro vs ds ps hr hlt h
    obtain ⟨v, vs', d, ds', p, q, rfl, rfl, rfl, h1, h2⟩ := trodAll_cons h
    exact trodAll_cons_mk (Below.trod laidOut (hr t (by simp)).1 (hr t (by simp)).2 h1 hb (fun x hx => hlt x (by simp [hx])))
      (ih vs' ds' q (fun u hu => hr u (by simp [hu])) (fun x hx => hlt x (by simp [hx])) h2)

/-- THE POST OF A LAW's ROW -/
theorem law_post {H : Type} {enc : TypeId × Value → H} {f : Func} {s : ChangeSpec} {W W' : World} {args : Array Value} {ds gs : List (DataW H)} {before : List MemPlace} (tb : TypeId)
    (hbool : Tryd.prog.underlying tb = some .bool) (hres : f.resultTypes = #[tb]) (hr0 : (f.params.toList.all fun t => Tryd.prog.readableRec t && decide (t < Tryd.prog.types.size)) = true)
    (hv : s.vars = []) (hfn : (s.fn H (ds ++ gs)).results = [.lit (.bool true)]) (hfa : (s.fn H (ds ++ gs)).args = ds) (hfv : (s.fn H (ds ++ gs)).vars = [])
    (hW : DataW.Whole enc Tryd.prog f.params.toList s.vars false W args.toList ds gs before) (hb : Below W.heap.size W W') :
    s.post enc Tryd.prog f false true false false W args (.bool true) W' := by
  have hr : ∀ t ∈ f.params.toList, Tryd.prog.readableRec t = true ∧ t < Tryd.prog.types.size := fun t ht => by
    have := List.all_eq_true.1 hr0 t ht; simpa using this
  have hlt := hW.lt
  have hW' := hW
  obtain ⟨p, q, hA, hV, rfl, hz, hn⟩ := hW'
  rw [hv] at hV
  obtain ⟨rfl, rfl⟩ := trodVars_none hV
  refine ⟨ds, [], p ++ [], [], p, [], hW, ?_, ?_, ?_, hb.frame _, fun h => by cases h⟩
  · rw [hres, hfn]; exact trodAll_cons_mk (shut_bool hbool _) trodAll_mk0
  · rw [hfa]; exact trodAll_below hb _ _ _ _ hr (fun x hx => hlt x (by simpa using hx)) hA
  · rw [hfv, hv]; rfl
end Go.Proofs.YtnkcmlngoeofgaaDoor
/- WHAT EVERY LAW's PROOF OF A TIED SEAT SHARES: the condition that the row lays, as the walks take it; a world that meets it. -/
namespace Go.Proofs.YtnkcmlngoeofgaaDoor
open Go.ChangeShapes Go.WideShapes Go.ChangeAt Go.RowKit
theorem laid_et : Tryd.prog.globalNamed "errors.errorType" = some 0 := by kernel_rfl
theorem laid_rt : (Tryd.prog.cutTypes.find? (·.1 == "internal/reflectlite.rtype")).map (·.2) = some 135 := by kernel_rfl
theorem laid_row : ((List.range Tryd.prog.types.size).filter fun t => Tryd.prog.rowNamed t [101, 114, 114, 111, 114]) = [31] := by kernel_rfl
theorem HG.of_laid {W : World} (h : laidMetH Tryd.prog [("errors.errorType", Rows.laid_errors_errorType)] W) : HG W := by
  have h' : laidMet Tryd.prog [] W ∧ handlesMet Tryd.prog [("errors.errorType", Rows.laid_errors_errorType)] W := h
  obtain ⟨name, u, ty, e1, e2, e3, e4, e5⟩ := h'.2 _ (List.mem_singleton.2 rfl)
  have en : name = [101, 114, 114, 111, 114] := (Option.some.inj e1).symm
  subst en
  obtain rfl := Option.some.inj (laid_rt.symm.trans e2)
  have hm : ty ∈ (List.range Tryd.prog.types.size).filter fun t => Tryd.prog.rowNamed t [101, 114, 114, 111, 114] := List.mem_filter.2 ⟨List.mem_range.2 e3, e4⟩
  rw [laid_row] at hm
  obtain rfl := List.mem_singleton.1 hm
  have hh : typeHandle Tryd.prog 31 = .pointer (some ⟨1, 31, none⟩) := by kernel_rfl
  rw [hh] at e5
  simpa [HG] using World.var?_cell laid_et e5 0
/-- a world that meets the condition -/
noncomputable def laidWorld (os : Os) : World :=
  let w0 := World.holding Tryd.prog os ⟨#[], #[], []⟩
  { w0 with heap := w0.heap.modify 0 fun
      | .cells _ t frozen => .cells #[.iface 135 (.agg #[.pointer (some ⟨1, 31, none⟩)])] t frozen
      | o => o }
theorem laidWorld_met (os : Os) (args : Array Value) : laidMetH Tryd.prog [("errors.errorType", Rows.laid_errors_errorType)] ((laidWorld os).forCall (fun _ _ => 0) ⟨#[], args, []⟩).memory :=
  laidMetH_of_parts (laidMet_nil _ _) (by kernel_rfl)
end Go.Proofs.YtnkcmlngoeofgaaDoor
