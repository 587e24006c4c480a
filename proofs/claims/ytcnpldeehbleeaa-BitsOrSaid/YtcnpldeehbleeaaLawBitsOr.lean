/- BitsOr: for every input the law returns true; each argument reads behind the call as it read before. -/
import Derived.Test.YtcnpldeehbleeaaBitsOrLaw
import Derived.Test.YtcnpldeehbleeaaLawKit
namespace Go.Proofs.Ytcnpldeehbleeaa.lawBitsOr
open Go.ChangeShapes Go.WideShapes Go.ChangeAt Go.RowKit
open Go.ChangeMaps (open_string)
set_option maxRecDepth 100000 in
theorem lifted (os : Os) (started : os.Started) (H : Type) (enc : TypeId × Value → H) :
    ReturnsInHanded {} Try.checked os 9 .any (Rows.bitsOrSpec.pre6 enc Try.prog Try.f9 Rows.bitsOrRow.domain false) (Rows.bitsOrSpec.post enc Try.prog Try.f9 false true false false) := by
  refine returnsInHanded_of_change (C := Try.checked) own started (by kernel_rfl) Try.func9
    (ChangeSpec.witness6 (enc := enc) (C := Try.checked) false ⟨#[], #[.agg #[.int .u8 0, .int .u8 0, .slice none 0 0, .slice none 0 0], .agg #[.int .u8 0, .int .u8 0]], []⟩ 8 (by kernel_rfl) (by kernel_rfl) (by kernel_rfl) (by kernel_rfl)) ?_
  intro W base args ds gs before hval0 hW _ _
  have hval : ∀ (j : Nat) t v, Try.f9.params[j]? = some t → args[j]? = some v → Value.okWide Try.prog W .any base t v := hval0
  have hW' := hW
  obtain ⟨p, q, hA0, hV, rfl, hfz, hnd⟩ := hW
  have hA : DataW.TrodAll enc Try.prog W 0 (fun _ => true) true Try.f9.params.toList args.toList ds p := hA0
  rw [Try.params9] at hA hval
  obtain ⟨v0, vs0, d0, ds0, p0, q0, hargs, rfl, rfl, h0, r0⟩ := trodAll_cons hA
  obtain ⟨v1, vs1, d1, ds1, p1, q1, rfl, rfl, rfl, h1, r1⟩ := trodAll_cons r0
  obtain ⟨rfl, rfl, rfl⟩ := trodAll_nil r1
  obtain rfl : args = #[v0, v1] := by cases args; simp_all
  obtain ⟨rfl, rfl⟩ := trodVars_none hV
  obtain ⟨cs0, rfl, z00⟩ := okWide_agg (by first | exact Or.inl ⟨_, Try.underlying43⟩ | exact Or.inr ⟨_, _, Try.underlying43⟩) (hval 0 43 v0 rfl rfl)
  have R0 : Rd Try.prog W 43 cs0.toList := by simpa [Value.cells] using Rd.of_trod h0
  obtain ⟨cs1, rfl, z10⟩ := okWide_agg (by first | exact Or.inl ⟨_, Try.underlying50⟩ | exact Or.inr ⟨_, _, Try.underlying50⟩) (hval 1 50 v1 rfl rfl)
  have R1 : Rd Try.prog W 50 cs1.toList := by simpa [Value.cells] using Rd.of_trod h1
  clear hA0 hval0
  simp only [List.append_nil] at hW'
  refine (lawBitsOr_any cs0 cs1 W R0 R1).mono fun e W' ⟨he, hb⟩ => ?_
  subst he
  exact ⟨_, rfl, law_post 4 Try.underlying4 rfl (by kernel_rfl) rfl rfl rfl rfl hW' hb⟩
theorem proved : Rows.BitsOrSaid :=
  OpenClaim.holds_of_wide 9 Try.f9 rfl rfl rfl rfl rfl rfl rfl ⟨rfl, rfl, rfl, rfl, rfl⟩ rfl rfl rfl rfl rfl (by kernel_rfl) Try.func9 (by kernel_rfl)
    (of_decide_eq_true (by kernel_rfl)) (by unfold Func.isWrapper; first | (rw [if_pos (by decide +kernel)]; kernel_rfl) | (rw [if_neg (by decide +kernel)]; exact ⟨rfl, rfl⟩))
    (fun os started H enc _ => lifted os started H enc)
end Go.Proofs.Ytcnpldeehbleeaa.lawBitsOr
