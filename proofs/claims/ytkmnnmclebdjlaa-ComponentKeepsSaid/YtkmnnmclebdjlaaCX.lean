/- ComponentKeeps holds of every input: the part of a graph on a cyclic component is irreducible, and edges that do not lie in one of these parts lie on no path that ends where it begins; of the input nothing is turned. No condition. -/
import Derived.Test.YtkmnnmclebdjlaaRD
import Derived.Test.YtkmnnmclebdjlaaWKP
namespace Go.Proofs.Ytkmnnmclebdjlaa
set_option linter.unusedSimpArgs false
set_option linter.unusedVariables false
open Go Go.Lift Go.RowKit Go.ChangeShapes Go.WideShapes Go.ChangeAt

set_option maxRecDepth 100000 in
theorem keepsLaw_lifted (os : Os) (started : os.Started) (H : Type) (enc : TypeId × Value → H) :
    ReturnsInHanded {} Try.checked os 9 .any (Rows.componentKeepsSpec.pre6 enc Try.prog Try.f9 Rows.componentKeepsRow.domain false) (Rows.componentKeepsSpec.post enc Try.prog Try.f9 false true false false) := by
  refine returnsInHanded_of_change (C := Try.checked) Try.own started (by kernel_rfl) Try.func9
    (ChangeSpec.witness6 (enc := enc) (C := Try.checked) false ⟨#[], #[.agg #[.int .i64 0, .int .i64 0, .slice none 0 0]], []⟩ 8 (by kernel_rfl) (by kernel_rfl) (by kernel_rfl) (by kernel_rfl)) ?_
  intro W base args ds gs before hval0 hW _ _
  have hval : ∀ (j : Nat) t v, Try.f9.params[j]? = some t → args[j]? = some v → Value.okWide Try.prog W .any base t v := hval0
  have hW' := hW
  obtain ⟨p, q, hA0, hV, rfl, _, _⟩ := hW
  have hA : DataW.TrodAll enc Try.prog W 0 (fun _ => true) true Try.f9.params.toList args.toList ds p := hA0
  rw [Try.params9] at hA hval
  obtain ⟨v0, d0, rfl, rfl, h0⟩ := trodAll_one hA
  obtain ⟨rfl, rfl⟩ := trodVars_none hV
  obtain ⟨g, _, hg⟩ := arg_struct Try.underlying24 rd24 (hval 0 24 v0 rfl rfl) h0
  refine (keepsLaw_c g (fun _ => False) W [v0] (fun _ h => h.elim) ⟨hg, trivial⟩).mono fun r W' ⟨v, hr, hk, hv⟩ => ?_
  subst hr
  have hv' : v = .bool true := hv
  subst hv'
  exact ⟨_, rfl, law_post Try.laidOut (by kernel_rfl) rfl rfl rfl Try.underlying4 hW' hk⟩

theorem keepsLaw_holds : Rows.ComponentKeepsSaid :=
  OpenClaim.holds_of_wide 9 Try.f9 rfl rfl rfl rfl rfl rfl rfl ⟨rfl, rfl, rfl, rfl, rfl⟩ rfl rfl rfl rfl rfl (by kernel_rfl) Try.func9 (by kernel_rfl)
    (of_decide_eq_true (by kernel_rfl)) (by unfold Func.isWrapper; first | (rw [if_pos (by decide +kernel)]; kernel_rfl) | (rw [if_neg (by decide +kernel)]; exact ⟨rfl, rfl⟩))
    (fun os started H enc _ => keepsLaw_lifted os started H enc)
#print axioms keepsLaw_holds
end Go.Proofs.Ytkmnnmclebdjlaa
