/- TopMoved: the law's function from any reading of its arguments; no conditions. -/
import Derived.Test.YtnmliebconiefaaGreatDoorQ60
import Derived.Test.YtnmliebconiefaaGreatDoorCards
import Derived.Test.YtnmliebconiefaaGreatDoorTie
import Derived.SevenTiedAt
namespace Go.Proofs.YtnmliebconiefaaGreatDoor.lawTopMoved
open Go.ChangeShapes Go.WideShapes Go.ChangeAt Go.RowKit
open Go.ChangeMaps (open_string)
set_option maxRecDepth 100000 in
theorem lifted (os : Os) (started : os.Started) (H : Type) (enc : TypeId × Value → H) :
    ReturnsInHanded {} Tryz.checked os 4 .any (fun w args => (Rows.topMovedSpec.pre enc Tryz.prog Tryz.f4 [] false w args ∧ laidMetH Tryz.prog [("errors.errorType", Rows.laid_errors_errorType)] w) ∧ sizedMet enc Tryz.prog Tryz.f4 (OpenSpec.ofChange Rows.topMovedSpec) false w args) (Rows.topMovedSpec.post enc Tryz.prog Tryz.f4 false true false false) := by
  refine returnsInHanded_of_change_and (C := Tryz.checked) (X := fun w _ => laidMetH Tryz.prog [("errors.errorType", Rows.laid_errors_errorType)] w) (fun _ _ _ hh h => h.of_heap hh) own started (by kernel_rfl) Tryz.func4
    (ChangeSpec.witness_at (enc := enc) (C := Tryz.checked) (os := os) (X := fun w _ => laidMetH Tryz.prog [("errors.errorType", Rows.laid_errors_errorType)] w) false (laidWorld os) #[.agg #[.slice none 0 0, .int .u8 0, .bool false, .slice none 0 0, .int .u8 0, .int .u8 0], .agg #[.int .u8 0, .int .u8 0], .agg #[.int .u8 0, .int .u8 0, .int .u8 0]] 8 rfl (by kernel_rfl) (by kernel_rfl) (by kernel_rfl) (by kernel_rfl) (by kernel_rfl) (laidWorld_met os _)) ?_
  intro W base args ds gs before hval0 hW _ _ hL _
  have hg := HG.of_laid hL
  have hval : ∀ (j : Nat) t v, Tryz.f4.params[j]? = some t → args[j]? = some v → Value.okWide Tryz.prog W .any base t v := hval0
  have hW' := hW
  obtain ⟨p, q, hA0, hV, rfl, hfz, hnd⟩ := hW
  have hA : DataW.TrodAll enc Tryz.prog W 0 (fun _ => true) true Tryz.f4.params.toList args.toList ds p := hA0
  rw [Tryz.params4] at hA hval
  obtain ⟨v0, vs0, d0, ds0, p0, q0, hargs, rfl, rfl, h0, r0⟩ := trodAll_cons hA
  obtain ⟨v1, vs1, d1, ds1, p1, q1, rfl, rfl, rfl, h1, r1⟩ := trodAll_cons r0
  obtain ⟨v2, vs2, d2, ds2, p2, q2, rfl, rfl, rfl, h2, r2⟩ := trodAll_cons r1
  obtain ⟨rfl, rfl, rfl⟩ := trodAll_nil r2
  obtain rfl : args = #[v0, v1, v2] := by cases args; simp_all
  obtain ⟨rfl, rfl⟩ := trodVars_none hV
  obtain ⟨cs0, rfl, z00⟩ := okWide_agg (by first | exact Or.inl ⟨_, Tryz.underlying25⟩ | exact Or.inr ⟨_, _, Tryz.underlying25⟩) (hval 0 25 v0 rfl rfl)
  have R0 : Rd Tryz.prog W 25 cs0.toList := by simpa [Value.cells] using Rd.of_trod h0
  obtain ⟨cs1, rfl, z10⟩ := okWide_agg (by first | exact Or.inl ⟨_, Tryz.underlying52⟩ | exact Or.inr ⟨_, _, Tryz.underlying52⟩) (hval 1 52 v1 rfl rfl)
  have R1 : Rd Tryz.prog W 52 cs1.toList := by simpa [Value.cells] using Rd.of_trod h1
  obtain ⟨cs2, rfl, z20⟩ := okWide_agg (by first | exact Or.inl ⟨_, Tryz.underlying26⟩ | exact Or.inr ⟨_, _, Tryz.underlying26⟩) (hval 2 26 v2 rfl rfl)
  have R2 : Rd Tryz.prog W 26 cs2.toList := by simpa [Value.cells] using Rd.of_trod h2
  clear hA0 hval0
  simp only [List.append_nil] at hW'
  refine (moved_rd cs0 cs1 cs2 W R0 R1 R2 hg).mono fun e W' ⟨he, hb⟩ => ?_
  subst he
  exact ⟨_, rfl, law_post 4 Tryz.underlying4 rfl (by kernel_rfl) rfl rfl rfl rfl hW' hb⟩
end Go.Proofs.YtnmliebconiefaaGreatDoor.lawTopMoved
