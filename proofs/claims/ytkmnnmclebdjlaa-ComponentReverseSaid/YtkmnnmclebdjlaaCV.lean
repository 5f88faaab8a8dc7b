/- ComponentReverse holds of every input: the reversed graph has the same components and the same period, and its sinks are the components that no edge enters; of the input nothing is turned. No condition. -/
import Derived.Test.YtkmnnmclebdjlaaRD
import Derived.Test.YtkmnnmclebdjlaaWRV
namespace Go.Proofs.Ytkmnnmclebdjlaa
set_option linter.unusedSimpArgs false
set_option linter.unusedVariables false
open Go Go.Lift Go.RowKit Go.ChangeShapes Go.WideShapes Go.ChangeAt

set_option maxRecDepth 100000 in
theorem reverseLaw_lifted (os : Os) (started : os.Started) (H : Type) (enc : TypeId × Value → H) :
    ReturnsInHanded {} Try.checked os 10 .any (Rows.componentReverseSpec.pre6 enc Try.prog Try.f10 Rows.componentReverseRow.domain false) (Rows.componentReverseSpec.post enc Try.prog Try.f10 false true false false) := by
  refine returnsInHanded_of_change (C := Try.checked) Try.own started (by kernel_rfl) Try.func10
    (ChangeSpec.witness6 (enc := enc) (C := Try.checked) false ⟨#[], #[.agg #[.int .i64 0, .int .i64 0, .slice none 0 0]], []⟩ 8 (by kernel_rfl) (by kernel_rfl) (by kernel_rfl) (by kernel_rfl)) ?_
  intro W base args ds gs before hval0 hW _ _
  have hval : ∀ (j : Nat) t v, Try.f10.params[j]? = some t → args[j]? = some v → Value.okWide Try.prog W .any base t v := hval0
  have hW' := hW
  obtain ⟨p, q, hA0, hV, rfl, _, _⟩ := hW
  have hA : DataW.TrodAll enc Try.prog W 0 (fun _ => true) true Try.f10.params.toList args.toList ds p := hA0
  rw [Try.params10] at hA hval
  obtain ⟨v0, d0, rfl, rfl, h0⟩ := trodAll_one hA
  obtain ⟨rfl, rfl⟩ := trodVars_none hV
  obtain ⟨g, _, hg⟩ := arg_struct Try.underlying24 rd24 (hval 0 24 v0 rfl rfl) h0
  refine (reverseLaw_c g (fun _ => False) W [v0] (fun _ h => h.elim) ⟨hg, trivial⟩).mono fun r W' ⟨v, hr, hk, hv⟩ => ?_
  subst hr
  have hv' : v = .bool true := hv
  subst hv'
  exact ⟨_, rfl, law_post Try.laidOut (by kernel_rfl) rfl rfl rfl Try.underlying4 hW' hk⟩

theorem reverseLaw_holds : Rows.ComponentReverseSaid :=
  OpenClaim.holds_of_wide 10 Try.f10 rfl rfl rfl rfl rfl rfl rfl ⟨rfl, rfl, rfl, rfl, rfl⟩ rfl rfl rfl rfl rfl (by kernel_rfl) Try.func10 (by kernel_rfl)
    (of_decide_eq_true (by kernel_rfl)) (by unfold Func.isWrapper; first | (rw [if_pos (by decide +kernel)]; kernel_rfl) | (rw [if_neg (by decide +kernel)]; exact ⟨rfl, rfl⟩))
    (fun os started H enc _ => reverseLaw_lifted os started H enc)
#print axioms reverseLaw_holds
end Go.Proofs.Ytkmnnmclebdjlaa
