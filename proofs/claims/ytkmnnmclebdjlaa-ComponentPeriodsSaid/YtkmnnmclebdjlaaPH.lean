/-
  Plain laws of this seat: components, in the order of their least states.
-/
import Derived.Test.YtkmnnmclebdjlaaPG
namespace Go.Proofs.Ytkmnnmclebdjlaa
set_option linter.unusedSimpArgs false
set_option linter.unusedVariables false
open Go Go.Lift

/-- both ways reached, as a test on the lists. -/
noncomputable def mutB (g : Gr) (s t : Nat) : Bool := (reachL g s).getD t false && (reachL g t).getD s false
/-- the members of the component of s among the first k states. -/
noncomputable def compAt (g : Gr) (s k : Nat) : List Int := ((List.range k).filter fun t => mutB g s t).map fun (t : Nat) => (t : Int)
noncomputable def compL (g : Gr) (s : Nat) : List Int := compAt g s g.n
theorem compAt_succ {g : Gr} {s k : Nat} : compAt g s (k + 1) = if mutB g s k then compAt g s k ++ [(k : Int)] else compAt g s k := by
  unfold compAt
  rw [List.range_succ, List.filter_append, List.map_append]
  cases h : mutB g s k <;> simp [h]
theorem compAt_len {g : Gr} {s k : Nat} : (compAt g s k).length ≤ k := by
  unfold compAt
  have := List.length_filter_le (fun t => mutB g s t) (List.range k)
  simp at this ⊢; exact this
/-- whether s is the least of its component. -/
noncomputable def least (g : Gr) (s : Nat) : Bool := decide ((compL g s).getD 0 0 = (s : Int))
noncomputable def compsAt (g : Gr) (k : Nat) : List (List Int) := ((List.range k).filter fun s => least g s).map fun s => compL g s
noncomputable def compsL (g : Gr) : List (List Int) := compsAt g g.n
theorem compsAt_succ {g : Gr} {k : Nat} : compsAt g (k + 1) = if least g k then compsAt g k ++ [compL g k] else compsAt g k := by
  unfold compsAt
  rw [List.range_succ, List.filter_append, List.map_append]
  cases h : least g k <;> simp [h]
theorem mutB_own {g : Gr} {s : Nat} (hs : s < g.n) : mutB g s s = true := by
  have h1 := (reachL_at (g := g) (s := s) hs).2 .refl
  unfold mutB
  rw [h1]; rfl
theorem comp_mem {g : Gr} {s k t : Nat} : (t : Int) ∈ compAt g s k ↔ t < k ∧ mutB g s t = true := by
  unfold compAt
  constructor
  · intro h
    obtain ⟨u, hu, he⟩ := List.mem_map.1 h
    have : u = t := by exact_mod_cast he
    subst this
    simpa using hu
  · intro h
    exact List.mem_map.2 ⟨t, by simpa using h, rfl⟩
theorem comp_nonneg {g : Gr} {s k : Nat} {v : Int} (h : v ∈ compAt g s k) : ∃ t : Nat, v = (t : Int) ∧ t < k ∧ mutB g s t = true := by
  obtain ⟨u, hu, rfl⟩ := List.mem_map.1 h
  exact ⟨u, rfl, by simpa using hu⟩
theorem compL_pos {g : Gr} {s : Nat} (hs : s < g.n) : 0 < (compL g s).length := by
  have : (s : Int) ∈ compL g s := comp_mem.2 ⟨hs, mutB_own hs⟩
  exact List.length_pos_of_mem this
/-- the head is the least member. -/
theorem compAt_head {g : Gr} {s : Nat} : ∀ k, 0 < (compAt g s k).length → ∀ v ∈ compAt g s k, (compAt g s k).getD 0 0 ≤ v
  | 0, h, _, _ => by simp [compAt] at h
  | k + 1, h, v, hv => by
    rw [compAt_succ] at h hv ⊢
    split at hv
    · rename_i hm
      rw [if_pos hm]
      rcases List.mem_append.1 hv with hv | hv
      · have h0 : 0 < (compAt g s k).length := List.length_pos_of_mem hv
        rw [show (compAt g s k ++ [(k : Int)]).getD 0 0 = (compAt g s k).getD 0 0 by
          simp only [List.getD_eq_getElem?_getD]; rw [List.getElem?_append_left h0]]
        exact compAt_head k h0 v hv
      · have hv' : v = (k : Int) := by simpa using hv
        subst hv'
        by_cases h0 : 0 < (compAt g s k).length
        · rw [show (compAt g s k ++ [(k : Int)]).getD 0 0 = (compAt g s k).getD 0 0 by
            simp only [List.getD_eq_getElem?_getD]; rw [List.getElem?_append_left h0]]
          obtain ⟨t, ht, htk, _⟩ := comp_nonneg (getD_mem (d := 0) h0)
          rw [ht]; omega
        · have : compAt g s k = [] := List.length_eq_zero_iff.1 (by omega)
          rw [this]; simp
    · rename_i hm
      rw [if_neg hm] at h ⊢
      exact compAt_head k h v hv
theorem least_iff {g : Gr} {s : Nat} (hs : s < g.n) : least g s = true ↔ ∀ t, t < g.n → mutB g s t = true → s ≤ t := by
  unfold least
  rw [decide_eq_true_eq]
  have hm : (s : Int) ∈ compL g s := comp_mem.2 ⟨hs, mutB_own hs⟩
  have hh := compAt_head g.n (compL_pos hs)
  obtain ⟨u, hu, huk, hum⟩ := comp_nonneg (getD_mem (d := 0) (compL_pos hs))
  constructor
  · intro h t ht hmt
    have := hh _ (comp_mem.2 ⟨ht, hmt⟩)
    have h2 : (compAt g s g.n).getD 0 0 = (s : Int) := h
    omega
  · intro h
    have h1 := hh _ hm
    have h2 := h u huk hum
    show (compL g s).getD 0 0 = (s : Int)
    have h3 : (compAt g s g.n).getD 0 0 = (u : Int) := hu
    have h4 : (compL g s).getD 0 0 = (u : Int) := hu
    omega
end Go.Proofs.Ytkmnnmclebdjlaa
