/-
  Plain laws of this seat: what makes a graph valid; what is computed on valid graphs.
-/
import Derived.Test.YtkmnnmclebdjlaaPH
import Derived.Test.YtkmnnmclebdjlaaEN
namespace Go.Proofs.Ytkmnnmclebdjlaa
set_option linter.unusedSimpArgs false
set_option linter.unusedVariables false
open Go Go.Lift

/-- the first number that is not 0. -/
def firstNZ {α : Type} (f : α → Int) : List α → Int
  | [] => 0
  | x :: r => if f x = 0 then firstNZ f r else f x
theorem firstNZ_range {f : Nat → Int} {n k : Nat} (h0 : ∀ j, j < k → f j = 0) (hk : k < n) (h : f k ≠ 0) : firstNZ f (List.range n) = f k := by
  have key : ∀ (l : List Nat) (m : Nat), l = List.range' m (n - m) → m ≤ k → firstNZ f l = f k := by
    intro l
    induction l with
    | nil => intro m hl hm; have := congrArg List.length hl; simp at this; omega
    | cons x r ih =>
      intro m hl hm
      obtain ⟨q, hq⟩ : ∃ q, n - m = q + 1 := ⟨n - m - 1, by omega⟩
      rw [hq, List.range'_succ] at hl
      injection hl with h1 h2
      rw [h1]
      by_cases hmk : m = k
      · rw [hmk, firstNZ, if_neg h]
      · rw [firstNZ, if_pos (h0 m (by omega))]
        exact ih (m + 1) (by rw [h2]; congr 1; omega) (by omega)
  exact key _ 0 (by rw [List.range_eq_range']; simp) (Nat.zero_le _)
theorem firstNZ_none {f : Nat → Int} {n : Nat} (h0 : ∀ j, j < n → f j = 0) : firstNZ f (List.range n) = 0 := by
  have key : ∀ (l : List Nat), (∀ x ∈ l, f x = 0) → firstNZ f l = 0 := by
    intro l
    induction l with
    | nil => intro _; rfl
    | cons x r ih => intro h; rw [firstNZ, if_pos (h x List.mem_cons_self)]; exact ih fun y hy => h y (List.mem_cons_of_mem _ hy)
  exact key _ fun x hx => h0 x (by simpa using hx)
theorem firstNZ_zero {f : Nat → Int} {n : Nat} (h : firstNZ f (List.range n) = 0) : ∀ j, j < n → f j = 0 := by
  have key : ∀ (l : List Nat), firstNZ f l = 0 → ∀ x ∈ l, f x = 0 := by
    intro l
    induction l with
    | nil => intro _ x hx; cases hx
    | cons y r ih =>
      intro h x hx
      rw [firstNZ] at h
      split at h
      · rename_i hy
        cases hx with
        | head => exact hy
        | tail _ hx => exact ih h x hx
      · rename_i hy; exact absurd h hy
  exact fun j hj => key _ h j (by simpa using hj)

/-- how two edges stand to each other: by their starts, then labels, then ends. -/
def cmpE (a b : Edge) : Int := if a.frm < b.frm then -1 else if b.frm < a.frm then 1 else if a.lab < b.lab then -1 else if b.lab < a.lab then 1 else if a.to < b.to then -1 else if b.to < a.to then 1 else 0
def edgeOut (g : Gr) (x : Edge) : Prop := x.frm < 0 ∨ g.states ≤ x.frm ∨ x.to < 0 ∨ g.states ≤ x.to ∨ x.lab < 0 ∨ g.labels ≤ x.lab
instance {g : Gr} {x : Edge} : Decidable (edgeOut g x) := by unfold edgeOut; infer_instance
def edgeCheck (g : Gr) (i : Nat) : Int := if edgeOut g (g.edges.getD i de) then 2 else if 0 < i ∧ 0 ≤ cmpE (g.edges.getD (i - 1) de) (g.edges.getD i de) then 10 else 0
/-- why a graph is not valid. -/
def gcheck (g : Gr) : Int := if g.labels < 1 ∨ 256 < g.labels then 12 else if g.states < 0 then 2 else if 64 < g.states ∨ 1024 < g.edges.length then 4 else firstNZ (edgeCheck g) (List.range g.edges.length)
section
variable {g : Gr}
theorem gcheck_labels (h : g.labels < 1 ∨ 256 < g.labels) : gcheck g = 12 := if_pos h
theorem gcheck_neg (h : ¬ (g.labels < 1 ∨ 256 < g.labels)) (h2 : g.states < 0) : gcheck g = 2 := (if_neg h).trans (if_pos h2)
theorem gcheck_limit (h : ¬ (g.labels < 1 ∨ 256 < g.labels)) (h2 : ¬ g.states < 0) (h3 : 64 < g.states ∨ 1024 < g.edges.length) : gcheck g = 4 := (if_neg h).trans ((if_neg h2).trans (if_pos h3))
structure Sized (g : Gr) : Prop where
  lab : 1 ≤ g.labels ∧ g.labels ≤ 256
  st : 0 ≤ g.states ∧ g.states ≤ 64
  ed : g.edges.length ≤ 1024
theorem gcheck_edges (h : Sized g) : gcheck g = firstNZ (edgeCheck g) (List.range g.edges.length) := by
  obtain ⟨h1, h2, h3⟩ := h
  unfold gcheck
  rw [if_neg (by omega), if_neg (by omega), if_neg (by omega)]
theorem gcheck_bad (h : Sized g) {i : Nat} (hi : i < g.edges.length) (h0 : ∀ j, j < i → edgeCheck g j = 0) {n : Int} (hn : edgeCheck g i = n) (hne : n ≠ 0) : gcheck g = n := by
  rw [gcheck_edges h, ← hn]
  exact firstNZ_range h0 hi (by rw [hn]; exact hne)
theorem gcheck_ok (h : Sized g) (h0 : ∀ j, j < g.edges.length → edgeCheck g j = 0) : gcheck g = 0 := by
  rw [gcheck_edges h]; exact firstNZ_none h0
theorem gcheck_valid (h : gcheck g = 0) : Sized g ∧ ∀ j, j < g.edges.length → edgeCheck g j = 0 := by
  unfold gcheck at h
  split at h
  · cases h
  · split at h
    · cases h
    · split at h
      · cases h
      · exact ⟨⟨by omega, by omega, by omega⟩, firstNZ_zero h⟩
theorem gcheck_fit (h : gcheck g = 0) : Fit g := by
  obtain ⟨hs, he⟩ := gcheck_valid h
  have key : ∀ x ∈ g.edges, ¬ edgeOut g x := fun x hx ho => by
    obtain ⟨j, hj, hje⟩ := List.mem_iff_getElem.1 hx
    have h1 := he j hj
    unfold edgeCheck at h1
    rw [show g.edges.getD j de = x by simp [List.getD, hj, hje], if_pos ho] at h1
    cases h1
  refine ⟨hs.st, fun x hx => ?_, fun x hx => ?_⟩
  · have := key x hx; unfold edgeOut at this; omega
  · have := key x hx; unfold edgeOut at this; omega
end
end Go.Proofs.Ytkmnnmclebdjlaa
