/-
  Plain laws of this seat: what is counted while the components are gone through; one component.
-/
import Derived.Test.YtkmnnmclebdjlaaWT
namespace Go.Proofs.Ytkmnnmclebdjlaa
set_option linter.unusedSimpArgs false
set_option linter.unusedVariables false
open Go Go.Lift

/-- the rows of which f holds among the first k. -/
def keptAt (L : List (List Int)) (f : List Int → Bool) (k : Nat) : List (List Int) := (L.take k).filter f
@[simp] theorem keptAt_zero {L : List (List Int)} {f : List Int → Bool} : keptAt L f 0 = [] := rfl
theorem keptAt_succ {L : List (List Int)} {f : List Int → Bool} {k : Nat} (h : k < L.length) : keptAt L f (k + 1) = if f (L.getD k []) then keptAt L f k ++ [L.getD k []] else keptAt L f k := by
  unfold keptAt
  rw [List.take_succ_eq_append_getElem h, List.filter_append]
  have : L.getD k [] = L[k] := by simp [List.getD, h]
  rw [this]
  cases hf : f L[k] <;> simp [hf]
theorem keptAt_len {L : List (List Int)} {f : List Int → Bool} {k : Nat} : (keptAt L f k).length ≤ L.length :=
  Nat.le_trans (List.length_filter_le _ _) (by rw [List.length_take]; omega)
theorem keptAt_all {L : List (List Int)} {f : List Int → Bool} {k : Nat} (h : L.length ≤ k) : keptAt L f k = L.filter f := by
  unfold keptAt; rw [List.take_of_length_le h]
/-- whether q holds of one of the first k edges. -/
def anyAt (g : Gr) (q : Edge → Bool) (k : Nat) : Bool := (g.edges.take k).any q
@[simp] theorem anyAt_zero {g : Gr} {q : Edge → Bool} : anyAt g q 0 = false := rfl
theorem anyAt_succ {g : Gr} {q : Edge → Bool} {k : Nat} (h : k < g.edges.length) : anyAt g q (k + 1) = (anyAt g q k || q (g.edges.getD k de)) := by
  unfold anyAt
  rw [List.take_succ_eq_append_getElem h, List.any_append]
  have : g.edges.getD k de = g.edges[k] := by simp [List.getD, h]
  rw [this]; simp
theorem anyAt_all {g : Gr} {q : Edge → Bool} {k : Nat} (h : g.edges.length ≤ k) : anyAt g q k = g.edges.any q := by
  unfold anyAt; rw [List.take_of_length_le h]
/-- the components, none where the graph is no graph. -/
noncomputable def CL (g : Gr) : List (List Int) := if gcheck g = 0 then compsL g else []
theorem CL_lt {g : Gr} {k : Nat} (h : k < (CL g).length) : gcheck g = 0 := by
  unfold CL at h
  split at h
  · assumption
  · simp at h
theorem CL_ok {g : Gr} (h : gcheck g = 0) : CL g = compsL g := if_pos h
theorem CL_no {g : Gr} (h : ¬ gcheck g = 0) : CL g = [] := if_neg h
theorem CL_len {g : Gr} : (CL g).length ≤ 64 := by
  unfold CL
  split
  · rename_i h
    have := (gcheck_fit h).st
    have := compsAt_len (g := g) (k := g.n)
    unfold compsL
    unfold Gr.n at *
    omega
  · simp
theorem CL_row {g : Gr} {c : List Int} (h : c ∈ CL g) : c.length ≤ 64 := by
  have hg := CL_lt (k := 0) (List.length_pos_of_mem h)
  rw [CL_ok hg] at h
  obtain ⟨s, _, rfl⟩ := List.mem_map.1 h
  have := (gcheck_fit hg).st
  have := compAt_len (g := g) (s := s) (k := g.n)
  unfold compL
  unfold Gr.n at *
  omega
theorem CL_at {g : Gr} {k : Nat} : ((CL g).getD k []).length ≤ 64 := by
  by_cases h : k < (CL g).length
  · exact CL_row (getD_mem h)
  · simp [List.getD, List.getElem?_eq_none (Nat.le_of_not_lt h)]

theorem mutB_iff {g : Gr} (hf : Fit g) {s t : Nat} (hs : s < g.n) (ht : t < g.n) : mutB g s t = true ↔ Rch g s t ∧ Rch g t s := by
  unfold mutB
  rw [Bool.and_eq_true, reachL_at ht, reachL_at hs]
theorem mutB_comm {g : Gr} {s t : Nat} : mutB g s t = mutB g t s := by unfold mutB; exact Bool.and_comm _ _
theorem mutB_trans {g : Gr} (hf : Fit g) {s t u : Nat} (hs : s < g.n) (ht : t < g.n) (hu : u < g.n) (h : mutB g s t = true) (k : mutB g t u = true) : mutB g s u = true := by
  rw [mutB_iff hf] at h k ⊢ <;> first | assumption | exact ⟨h.1.trans k.1, k.2.trans h.2⟩
theorem compL_mut {g : Gr} (hf : Fit g) {s t : Nat} (hs : s < g.n) (ht : t < g.n) (h : mutB g s t = true) : compL g s = compL g t := by
  unfold compL compAt
  congr 1
  apply List.filter_congr
  intro u hu
  have hu' : u < g.n := by simpa using hu
  rw [Bool.eq_iff_iff]
  exact ⟨fun h2 => mutB_trans hf ht hs hu' (by rw [mutB_comm]; exact h) h2, fun h2 => mutB_trans hf hs ht hu' h h2⟩
/-- each state has a least state of its component. -/
theorem least_of {g : Gr} (hf : Fit g) {s : Nat} (hs : s < g.n) : ∃ m, m < g.n ∧ least g m = true ∧ mutB g m s = true := by
  obtain ⟨m, hm, hmn, hms⟩ := comp_nonneg (getD_mem (d := 0) (compL_pos hs))
  have hh := compAt_head g.n (compL_pos hs)
  refine ⟨m, hmn, (least_iff hmn).2 fun t ht hmt => ?_, by rw [mutB_comm]; exact hms⟩
  have h1 := hh _ (comp_mem.2 ⟨ht, mutB_trans hf hs hmn ht hms hmt⟩)
  have h2 : (compAt g s g.n).getD 0 0 = (m : Int) := hm
  omega
theorem comps_mem {g : Gr} {c : List Int} : c ∈ compsL g ↔ ∃ s, s < g.n ∧ least g s = true ∧ c = compL g s := by
  unfold compsL compsAt
  simp only [List.mem_map, List.mem_filter, List.mem_range]
  exact ⟨fun ⟨s, h, e⟩ => ⟨s, h.1, h.2, e.symm⟩, fun ⟨s, h1, h2, e⟩ => ⟨s, ⟨h1, h2⟩, e.symm⟩⟩
theorem comps_cover {g : Gr} (hf : Fit g) {s : Nat} (hs : s < g.n) : compL g s ∈ compsL g := by
  obtain ⟨m, hm, hl, hms⟩ := least_of hf hs
  exact comps_mem.2 ⟨m, hm, hl, (compL_mut hf hm hs hms).symm⟩
theorem has_own {g : Gr} {s : Nat} (hs : s < g.n) : hasI (compL g s) (s : Int) = true := by
  unfold hasI
  rw [decide_eq_true_eq]
  exact comp_mem.2 ⟨hs, mutB_own hs⟩
theorem one_cyc {g : Gr} (hf : Fit g) (h1 : (compsL g).length = 1) : ((compsL g).filter (cycB g)).length = 1 ↔ 0 < g.edges.length := by
  obtain ⟨c, hc⟩ := List.length_eq_one_iff.1 h1
  have hall : ∀ s : Nat, s < g.n → hasI c (s : Int) = true := fun s hs => by
    have := comps_cover hf hs
    rw [hc] at this
    have e : compL g s = c := by simpa using this
    rw [← e]; exact has_own hs
  have hst : (g.n : Int) = g.states ∨ g.states < 0 := by unfold Gr.n; omega
  have hcy : cycB g c = true ↔ 0 < g.edges.length := by
    unfold cycB
    rw [List.any_eq_true]
    constructor
    · rintro ⟨x, hx, _⟩
      exact List.length_pos_of_mem hx
    · intro h
      refine ⟨g.edges[0], List.getElem_mem h, ?_⟩
      have h1 := hf.frm _ (List.getElem_mem h)
      have h2 := hf.to _ (List.getElem_mem h)
      have e1 := hall (g.edges[0]).frm.toNat (by unfold Gr.n; omega)
      have e2 := hall (g.edges[0]).to.toNat (by unfold Gr.n; omega)
      rw [show (((g.edges[0]).frm.toNat : Nat) : Int) = (g.edges[0]).frm by omega] at e1
      rw [show (((g.edges[0]).to.toNat : Nat) : Int) = (g.edges[0]).to by omega] at e2
      rw [e1, e2]; rfl
  rw [hc, ← hcy]
  cases h : cycB g c <;> simp [h]
/-- a graph of one component, with an edge. -/
noncomputable def irrB (g : Gr) : Bool := decide (gcheck g = 0) && decide ((compsL g).length = 1) && decide (0 < g.edges.length)
theorem irr_all {g : Gr} (h : irrB g = true) : gcheck g = 0 ∧ (compsL g).length = 1 ∧ 0 < g.edges.length := by
  unfold irrB at h
  simp only [Bool.and_eq_true, decide_eq_true_eq] at h
  exact ⟨h.1.1, h.1.2, h.2⟩
theorem irr_rch {g : Gr} (h : irrB g = true) {s t : Nat} (hs : s < g.n) (ht : t < g.n) : Rch g s t := by
  obtain ⟨hg, h1, _⟩ := irr_all h
  have hf := gcheck_fit hg
  obtain ⟨c, hc⟩ := List.length_eq_one_iff.1 h1
  have e : ∀ s, s < g.n → compL g s = c := fun s hs => by
    have := comps_cover hf hs
    rw [hc] at this
    simpa using this
  have : (t : Int) ∈ compL g s := by rw [e s hs, ← e t ht]; exact comp_mem.2 ⟨ht, mutB_own ht⟩
  exact ((mutB_iff hf hs ht).1 (comp_mem.1 this).2).1
theorem irr_ref {g : Gr} : (decide (gcheck g = 0) && decide ((compsL g).length = 1) && decide (((compsL g).filter (cycB g)).length = 1)) = irrB g := by
  unfold irrB
  by_cases hg : gcheck g = 0
  · by_cases h1 : (compsL g).length = 1
    · have := one_cyc (gcheck_fit hg) h1
      simp [hg, h1, this]
    · simp [h1]
  · simp [hg]
end Go.Proofs.Ytkmnnmclebdjlaa
