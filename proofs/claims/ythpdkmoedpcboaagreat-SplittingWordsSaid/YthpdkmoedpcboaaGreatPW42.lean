/- Parts of the proof: NK RP. -/
import Derived.Test.YthpdkmoedpcboaaGreatPW14
import Derived.Test.YthpdkmoedpcboaaGreatPW41
namespace Go.Proofs.YthpdkmoedpcboaaGreat
set_option linter.unusedSimpArgs false
set_option linter.unusedVariables false
open Go Go.Lift Go.Proofs
section
variable {g : Gr} {v : List Int} {m : Int}
theorem cls_ok (h : cNo g v m = 0) : cLs g v m = cRd g v m g.states.toNat ∧ Rd g v m (cLs g v m) := by
  by_cases hb : baseN g v m = 0
  · by_cases hc : cRd g v m g.states.toNat = []
    · rw [(cNo_2 hb hc).1] at h; cases h
    · have e := (cNo_3 hb hc).2
      rw [e]
      exact ⟨rfl, cRd_ok (vecN_zero (eigN_zero (baseN_zero hb).1).1).1 (Nat.le_refl _), cRd_round hb hc⟩
  · exact absurd ((cNo_1 hb).1 ▸ h) hb
theorem apl_04 {l : List Spl} (hr : Rd g v m l) : aplN g v m l = 0 ∨ aplN g v m l = 4 := by
  by_cases h : 64 < offA g l g.states.toNat ∨ 1024 < (edA g l g.edges.length).length
  · exact .inr (apl_2 hr.rd h).2.2.2
  · exact .inl (apl_3 hr.rd h).2.2.2
theorem apl_z {l : List Spl} (hr : Rd g v m l) (h : aplN g v m l = 0) : aplG g v m l = splG g l ∧ aplW g v m l = hvA g v m l g.states.toNat ∧ aplP g v m l = parA g l g.states.toNat ∧ offA g l g.states.toNat ≤ 64 ∧ (edA g l g.edges.length).length ≤ 1024 := by
  by_cases hc : 64 < offA g l g.states.toNat ∨ 1024 < (edA g l g.edges.length).length
  · rw [(apl_2 hr.rd hc).2.2.2] at h; cases h
  · obtain ⟨e1, e2, e3, _⟩ := apl_3 hr.rd hc
    exact ⟨e1, e2, e3, by omega, by omega⟩
end
structure Prf where
  g : Gr
  w : List Int
  m : Int
  rounds : List (List Spl)
section
variable {p : Prf} {j : Nat} {ρ : Nat → Nat}
end
section
variable {p : Prf}
def PrfOK (p : Prf) : Prop := ∀ l ∈ p.rounds, RndOK l
theorem PrfOK.at (h : PrfOK p) {i : Nat} : RndOK (p.rounds.getD i []) := by
  by_cases hi : i < p.rounds.length
  · exact h _ (getD_mem hi)
  · rw [List.getD_eq_getElem?_getD, List.getElem?_eq_none (Nat.le_of_not_lt hi)]
    exact ⟨Nat.zero_le _, fun x hx => (List.not_mem_nil hx).elim, fun x hx => (List.not_mem_nil hx).elim⟩
end
end Go.Proofs.YthpdkmoedpcboaaGreat
namespace Go.Proofs.YthpdkmoedpcboaaGreat
set_option linter.unusedSimpArgs false
set_option linter.unusedVariables false
open Go Go.Lift Go.RowKit Go.ChangeShapes Go.WideShapes Go.ChangeAt
theorem rdB : Reads Tryz.prog 5 1 (fun (n : Int) _ => .int .u8 n) (fun n => (Lit.int .u8 n).wf = true) := reads_int Tryz.underlying5 (by kernel_rfl)
end Go.Proofs.YthpdkmoedpcboaaGreat
