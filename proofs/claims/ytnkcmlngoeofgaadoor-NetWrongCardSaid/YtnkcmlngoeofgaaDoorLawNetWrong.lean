/- NetWrong: for every input the law returns true; each argument reads behind the call as it read before. -/
import Derived.Test.YtnkcmlngoeofgaaDoorPNetWrong01
import Derived.Test.YtnkcmlngoeofgaaDoorPNetOnce11
import Derived.Test.YtnkcmlngoeofgaaDoorCards
import Derived.Test.YtnkcmlngoeofgaaDoorTie
import Derived.SevenTiedAt
namespace Go.Proofs.YtnkcmlngoeofgaaDoor.lawNetWrong
open Go.ChangeShapes Go.WideShapes Go.ChangeAt Go.RowKit
open Go.ChangeMaps (open_string)
set_option maxRecDepth 100000 in
theorem lifted (os : Os) (started : os.Started) (H : Type) (enc : TypeId × Value → H) :
    ReturnsInHanded {} Tryd.checked os 9 .any (fun w args => (Rows.netWrongSpec.pre enc Tryd.prog Tryd.f9 [] false w args ∧ laidMetH Tryd.prog [("errors.errorType", Rows.laid_errors_errorType)] w) ∧ sizedMet enc Tryd.prog Tryd.f9 (OpenSpec.ofChange Rows.netWrongSpec) false w args) (Rows.netWrongSpec.post enc Tryd.prog Tryd.f9 false true false false) := by
  refine returnsInHanded_of_change_and (C := Tryd.checked) (X := fun w _ => laidMetH Tryd.prog [("errors.errorType", Rows.laid_errors_errorType)] w) (fun _ _ _ hh h => h.of_heap hh) own started (by kernel_rfl) Tryd.func9
    (ChangeSpec.witness_at (enc := enc) (C := Tryd.checked) (os := os) (X := fun w _ => laidMetH Tryd.prog [("errors.errorType", Rows.laid_errors_errorType)] w) false (laidWorld os) #[.slice none 0 0, .agg #[.int .i64 0, .int .i64 0, .int .i64 0], .agg #[.int .i64 0, .slice none 0 0, .slice none 0 0, .slice none 0 0]] 8 rfl (by kernel_rfl) (by kernel_rfl) (by kernel_rfl) (by kernel_rfl) (by kernel_rfl) (laidWorld_met os _)) ?_
  intro W base args ds gs before hval0 hW _ _ hL _
  have hg := HG.of_laid hL
  have hval : ∀ (j : Nat) t v, Tryd.f9.params[j]? = some t → args[j]? = some v → Value.okWide Tryd.prog W .any base t v := hval0
  have hW' := hW
  obtain ⟨p, q, hA0, hV, rfl, hfz, hnd⟩ := hW
  have hA : DataW.TrodAll enc Tryd.prog W 0 (fun _ => true) true Tryd.f9.params.toList args.toList ds p := hA0
  rw [Tryd.params9] at hA hval
  obtain ⟨v0, vs0, d0, ds0, p0, q0, hargs, rfl, rfl, h0, r0⟩ := trodAll_cons hA
  obtain ⟨v1, vs1, d1, ds1, p1, q1, rfl, rfl, rfl, h1, r1⟩ := trodAll_cons r0
  obtain ⟨v2, vs2, d2, ds2, p2, q2, rfl, rfl, rfl, h2, r2⟩ := trodAll_cons r1
  obtain ⟨rfl, rfl, rfl⟩ := trodAll_nil r2
  obtain rfl : args = #[v0, v1, v2] := by cases args; simp_all
  obtain ⟨rfl, rfl⟩ := trodVars_none hV
  obtain ⟨a0, len0, cap0, rfl⟩ := okWide_slice Tryd.underlying56 (hval 0 56 v0 rfl rfl)
  have R0 : Rd Tryd.prog W 56 [.slice a0 len0 cap0] := by simpa [Value.cells] using Rd.of_trod h0
  obtain ⟨cs1, rfl, z10⟩ := okWide_agg (by first | exact Or.inl ⟨_, Tryd.underlying71⟩ | exact Or.inr ⟨_, _, Tryd.underlying71⟩) (hval 1 71 v1 rfl rfl)
  have R1 : Rd Tryd.prog W 71 cs1.toList := by simpa [Value.cells] using Rd.of_trod h1
  obtain ⟨cs2, rfl, z20⟩ := okWide_agg (by first | exact Or.inl ⟨_, Tryd.underlying25⟩ | exact Or.inr ⟨_, _, Tryd.underlying25⟩) (hval 2 25 v2 rfl rfl)
  have R2 : Rd Tryd.prog W 25 cs2.toList := by simpa [Value.cells] using Rd.of_trod h2
  clear hA0 hval0
  simp only [List.append_nil] at hW'
  refine (netWrong_rd _ cs1 cs2 W R0 R1 R2 hg).mono fun e W' ⟨he, hb⟩ => ?_
  subst he
  exact ⟨_, rfl, law_post 4 Tryd.underlying4 rfl (by kernel_rfl) rfl rfl rfl rfl hW' hb⟩
theorem row : Rows.NetWrongSaid :=
  OpenClaim.holds_of_wide 9 Tryd.f9 rfl rfl rfl rfl rfl rfl rfl ⟨rfl, rfl, rfl, rfl, rfl⟩ rfl rfl rfl rfl rfl (by kernel_rfl) Tryd.func9 (by kernel_rfl)
    (of_decide_eq_true (by kernel_rfl)) (by unfold Func.isWrapper; first | (rw [if_pos (by decide +kernel)]; kernel_rfl) | (rw [if_neg (by decide +kernel)]; exact ⟨rfl, rfl⟩))
    (fun os started H enc _ => lifted os started H enc)
theorem proved : Rows.NetWrongCardSaid :=
  Claim7.holds_tied_plain_at .later [] [.handle] true (true, "e3cb26cde5bdc9e32b610e36eb4fc372a197e5534f79321d51ffcb0165723461") true
    row (fun _ h => by cases h) (by kernel_rfl) (fun _ h => by cases h) netWrong_row_tie rfl ⟨rfl, rfl⟩ (by kernel_rfl) rfl
    (fun f fn hf hfn => by
      obtain rfl : f = 9 := Option.some.inj ((show Tryd.prog.funcNamed "milestone/milestonelaw07.NetWrong" = some 9 by kernel_rfl).symm.trans hf) |>.symm
      obtain rfl : fn = Tryd.f9 := (Option.some.inj (Tryd.func9.symm.trans hfn)).symm
      exact ⟨by kernel_rfl, fun j t ht => by
        rw [Tryd.params9] at ht
        rcases j with _ | j
        · obtain rfl : t = 56 := by simpa using ht.symm
          exact (show Tryd.prog.wantsStandIn 56 = false by kernel_rfl)
        rcases j with _ | j
        · obtain rfl : t = 71 := by simpa using ht.symm
          exact (show Tryd.prog.wantsStandIn 71 = false by kernel_rfl)
        rcases j with _ | j
        · obtain rfl : t = 25 := by simpa using ht.symm
          exact (show Tryd.prog.wantsStandIn 25 = false by kernel_rfl)
        simp at ht⟩)
    (by kernel_rfl)
end Go.Proofs.YtnkcmlngoeofgaaDoor.lawNetWrong
