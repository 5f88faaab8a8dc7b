/- Check and Apply answer as the reference. No condition. -/
import Derived.Test.YthpdkmoedpcboaaRD
import Derived.Test.YthpdkmoedpcboaaWQ
namespace Go.Proofs.Ythpdkmoedpcboaa
set_option linter.unusedSimpArgs false
set_option linter.unusedVariables false
open Go Go.Lift Go.RowKit Go.ChangeShapes Go.WideShapes Go.ChangeAt

set_option maxRecDepth 100000 in
theorem roundsLaw_lifted (os : Os) (started : os.Started) (H : Type) (enc : TypeId × Value → H) :
    ReturnsInHanded {} Try.checked os 3 .any (Rows.splittingRoundsSpec.pre6 enc Try.prog Try.f3 Rows.splittingRoundsRow.domain false) (Rows.splittingRoundsSpec.post enc Try.prog Try.f3 false true false false) := by
  refine returnsInHanded_of_change (C := Try.checked) Try.own started (by kernel_rfl) Try.func3
    (ChangeSpec.witness6 (enc := enc) (C := Try.checked) false ⟨#[], #[.agg #[.int .i64 0, .int .i64 0, .slice none 0 0], .slice none 0 0, .int .i64 0, .slice none 0 0], []⟩ 8 (by kernel_rfl) (by kernel_rfl) (by kernel_rfl) (by kernel_rfl)) ?_
  intro W base args ds gs before hval0 hW _ _
  have hval : ∀ (j : Nat) t v, Try.f3.params[j]? = some t → args[j]? = some v → Value.okWide Try.prog W .any base t v := hval0
  have hW' := hW
  obtain ⟨p, q, hA0, hV, rfl, _, _⟩ := hW
  have hA : DataW.TrodAll enc Try.prog W 0 (fun _ => true) true Try.f3.params.toList args.toList ds p := hA0
  rw [Try.params3] at hA hval
  obtain ⟨al, rfl⟩ : ∃ al : List Value, args = al.toArray := ⟨args.toList, by simp⟩
  simp only at hA
  obtain ⟨v0, al0, d0, ds0, p0, q0, rfl, rfl, rfl, h0, hA⟩ := trodAll_cons hA
  obtain ⟨v1, al1, d1, ds1, p1, q1, rfl, rfl, rfl, h1, hA⟩ := trodAll_cons hA
  obtain ⟨v2, al2, d2, ds2, p2, q2, rfl, rfl, rfl, h2, hA⟩ := trodAll_cons hA
  obtain ⟨v3, al3, d3, ds3, p3, q3, rfl, rfl, rfl, h3, hA⟩ := trodAll_cons hA
  obtain ⟨rfl, rfl, rfl⟩ := trodAll_nil hA
  obtain ⟨rfl, rfl⟩ := trodVars_none hV
  obtain ⟨x0, w0, r0⟩ := arg_struct Try.underlying24 rdG (hval 0 24 v0 rfl rfl) h0
  obtain ⟨x1, w1, r1⟩ := arg_slice Try.underlying25 rdIs (hval 1 25 v1 rfl rfl) h1
  obtain ⟨x2, w2, r2⟩ := arg_int Try.underlying3 rdI (hval 2 3 v2 rfl rfl) h2
  obtain ⟨x3, w3, r3⟩ := arg_slice Try.underlying26 rdSs (hval 3 26 v3 rfl rfl) h3
  refine (roundsLaw_c x0 w0 x1 w1 x2 x3 w3 (fun _ => False) W [v0, v1, v2, v3] (fun _ h => h.elim) ⟨r0, r1, r2, r3, trivial⟩).mono fun r W' ⟨v, hr, hk, hv⟩ => ?_
  subst hr
  have hv' : v = .bool true := hv
  subst hv'
  exact ⟨_, rfl, law_post Try.laidOut (by kernel_rfl) rfl rfl rfl Try.underlying4 hW' hk⟩

theorem roundsLaw_holds : Rows.SplittingRoundsSaid :=
  OpenClaim.holds_of_wide 3 Try.f3 rfl rfl rfl rfl rfl rfl rfl ⟨rfl, rfl, rfl, rfl, rfl⟩ rfl rfl rfl rfl rfl (by kernel_rfl) Try.func3 (by kernel_rfl)
    (of_decide_eq_true (by kernel_rfl)) (by unfold Func.isWrapper; first | (rw [if_pos (by decide +kernel)]; kernel_rfl) | (rw [if_neg (by decide +kernel)]; exact ⟨rfl, rfl⟩))
    (fun os started H enc _ => roundsLaw_lifted os started H enc)
#print axioms roundsLaw_holds
end Go.Proofs.Ythpdkmoedpcboaa
