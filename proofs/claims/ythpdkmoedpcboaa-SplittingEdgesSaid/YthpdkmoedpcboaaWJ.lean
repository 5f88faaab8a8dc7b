/-
  Walks: a round applied.
-/
import Derived.Test.YthpdkmoedpcboaaWI
import Derived.Test.YthpdkmoedpcboaaND
import Derived.Test.YthpdkmoedpcboaaZH
namespace Go.Proofs.Ythpdkmoedpcboaa
set_option linter.unusedSimpArgs false
set_option linter.unusedVariables false
open Go Go.Lift Go.Proofs
section
variable {g : Gr} {v : List Int} {m : Int} {l : List Spl}
theorem spl_zero {i : Nat} (h : splN g v m l i = 0) : (0 ≤ (l.getD i ds).st ∧ (l.getD i ds).st < g.states) ∧ (0 < i → (l.getD (i - 1) ds).st < (l.getD i ds).st) ∧ divB (l.getD i ds).parts (outR g (l.getD i ds).st) = true ∧ wtB g v m (l.getD i ds) = true := by
  unfold splN at h
  split at h
  · cases h
  · rename_i h1
    split at h
    · cases h
    · rename_i h2
      split at h
      · cases h
      · rename_i h3
        split at h
        · cases h
        · rename_i h4
          exact ⟨by omega, fun hi => by omega, by simpa using h3, by simpa using h4⟩
theorem rnd_zero (h : rndN g v m l = 0) : baseN g v m = 0 ∧ l ≠ [] ∧ ∀ i, i < l.length → splN g v m l i = 0 := by
  unfold rndN at h
  split at h
  · rename_i h1; exact absurd h h1
  · rename_i h1
    split at h
    · cases h
    · rename_i h2
      exact ⟨Classical.byContradiction h1, h2, firstNZ_zero h⟩
theorem rnd_spl (hr : RndOK l) (h : rndN g v m l = 0) {x : Spl} (hx : x ∈ l) : SplOK g x ∧ 0 < x.parts.length := by
  have hv := (vecN_zero (eigN_zero (baseN_zero (rnd_zero h).1).1).1).1
  obtain ⟨j, hj, rfl⟩ := List.mem_iff_getElem.1 hx
  have h1 := spl_zero ((rnd_zero h).2.2 j hj)
  have e : l.getD j ds = l[j] := by simp [List.getD, hj]
  rw [e] at h1
  exact spl_ok hv hr hx h1.1 h1.2.2.1
/-- what Apply answers. -/
noncomputable def aplL (g : Gr) (l : List Spl) : List Edge := edA g l g.edges.length
noncomputable def aplN (g : Gr) (v : List Int) (m : Int) (l : List Spl) : Int := if rndN g v m l ≠ 0 then rndN g v m l else if 64 < offA g l g.states.toNat ∨ 1024 < (aplL g l).length then 4 else 0
end
/-- the graph of the example. -/
def smG : Gr := ⟨2, 2, [⟨0, 0, 0⟩, ⟨0, 1, 1⟩, ⟨1, 0, 0⟩]⟩
set_option maxRecDepth 100000 in
theorem small24_c  : PC Try.prog 20 [] (.agg 3 (grF smG)) := by
  refine PC_introS T_ok Try.func20 rfl (by simp [Try.ntmps20]) fun G hG hR => ?_
  simp only [Try.ntmps20, Try.results20] at hG ⊢
  simp only [argEnv, Nat.zero_add, Nat.reduceAdd]
  refine awpS_seq ?_
  refine awpS_reg T_ok fun K hK => ?_
  simp [hG, List.getD_cons_zero, List.getD_cons_succ, -List.getD_eq_getElem?_getD]
  first | refine hK _ ?_ | refine ⟨Cond.mk (by first | omega | exact trivial | (simp [-List.getD_eq_getElem?_getD]; done) | (simp [-List.getD_eq_getElem?_getD]; omega) | (simp [-List.getD_eq_getElem?_getD]; (repeat (first | assumption | intro _ | exact And.intro ‹_› ‹_› | apply And.intro | omega | exact trivial | exact decide_eq_true (by assumption))); done) | ((repeat (first | assumption | intro _ | exact And.intro ‹_› ‹_› | apply And.intro | omega | exact trivial | exact decide_eq_true (by assumption))); done)), hK _ ?_⟩
  clear K hK
  refine awpS_seq ?_
  refine awpS_reg T_ok fun K hK => ?_
  simp [hG, List.getD_cons_zero, List.getD_cons_succ, -List.getD_eq_getElem?_getD]
  first | refine hK _ ?_ | refine ⟨Cond.mk (by first | omega | exact trivial | (simp [-List.getD_eq_getElem?_getD]; done) | (simp [-List.getD_eq_getElem?_getD]; omega) | (simp [-List.getD_eq_getElem?_getD]; (repeat (first | assumption | intro _ | exact And.intro ‹_› ‹_› | apply And.intro | omega | exact trivial | exact decide_eq_true (by assumption))); done) | ((repeat (first | assumption | intro _ | exact And.intro ‹_› ‹_› | apply And.intro | omega | exact trivial | exact decide_eq_true (by assumption))); done)), hK _ ?_⟩
  clear K hK
  refine awpS_ret ?_
  refine RetOK_of ?_
  simp [hG, List.getD_cons_zero, List.getD_cons_succ, -List.getD_eq_getElem?_getD]
  exact ⟨rfl, rfl, rfl, Nat.le_refl _, fun i hi => by rcases (show i = 0 ∨ i = 1 ∨ i = 2 by have h3 : i < 3 := hi; omega) with rfl | rfl | rfl <;> exact ⟨rfl, rfl, rfl⟩⟩

end Go.Proofs.Ythpdkmoedpcboaa
