/-
  Plain laws of this seat: what makes a graph valid; what is computed on valid graphs.
-/
import Derived.Test.YtfoeigajlkonpaaDoorPG
import Derived.Test.YtfoeigajlkonpaaDoorEN
namespace Go.Proofs.YtfoeigajlkonpaaDoor
set_option linter.unusedSimpArgs false
set_option linter.unusedVariables false
open Go Go.Lift

/-- the first number that is not 0. -/
def firstNZ {α : Type} (f : α → Int) : List α → Int
  | [] => 0
  | x :: r => if f x = 0 then firstNZ f r else f x
theorem firstNZ_range {f : Nat → Int} {n k : Nat} (h0 : ∀ j, j < k → f j = 0) (hk : k < n) (h : f k ≠ 0) : firstNZ f (List.range n) = f k := by
  have key : ∀ (l : List Nat) (m : Nat), l = List.range' m (n - m) → m ≤ k → firstNZ f l = f k := by
    intro l
    induction l with
    | nil => intro m hl hm; have := congrArg List.length hl; simp at this; omega
    | cons x r ih =>
      intro m hl hm
      obtain ⟨q, hq⟩ : ∃ q, n - m = q + 1 := ⟨n - m - 1, by omega⟩
      rw [hq, List.range'_succ] at hl
      injection hl with h1 h2
      rw [h1]
      by_cases hmk : m = k
      · rw [hmk, firstNZ, if_neg h]
      · rw [firstNZ, if_pos (h0 m (by omega))]
        exact ih (m + 1) (by rw [h2]; congr 1; omega) (by omega)
  exact key _ 0 (by rw [List.range_eq_range']; simp) (Nat.zero_le _)
theorem firstNZ_none {f : Nat → Int} {n : Nat} (h0 : ∀ j, j < n → f j = 0) : firstNZ f (List.range n) = 0 := by
  have key : ∀ (l : List Nat), (∀ x ∈ l, f x = 0) → firstNZ f l = 0 := by
    intro l
    induction l with
    | nil => intro _; rfl
    | cons x r ih => intro h; rw [firstNZ, if_pos (h x List.mem_cons_self)]; exact ih fun y hy => h y (List.mem_cons_of_mem _ hy)
  exact key _ fun x hx => h0 x (by simpa using hx)
theorem firstNZ_zero {f : Nat → Int} {n : Nat} (h : firstNZ f (List.range n) = 0) : ∀ j, j < n → f j = 0 := by
  have key : ∀ (l : List Nat), firstNZ f l = 0 → ∀ x ∈ l, f x = 0 := by
    intro l
    induction l with
    | nil => intro _ x hx; cases hx
    | cons y r ih =>
      intro h x hx
      rw [firstNZ] at h
      split at h
      · rename_i hy
        cases hx with
        | head => exact hy
        | tail _ hx => exact ih h x hx
      · rename_i hy; exact absurd h hy
  exact fun j hj => key _ h j (by simpa using hj)

/-- how two edges stand to each other: by their starts, then labels, then ends. -/
def cmpE (a b : Edge) : Int := if a.frm < b.frm then -1 else if b.frm < a.frm then 1 else if a.lab < b.lab then -1 else if b.lab < a.lab then 1 else if a.to < b.to then -1 else if b.to < a.to then 1 else 0
def edgeOut (g : Gr) (x : Edge) : Prop := x.frm < 0 ∨ g.states ≤ x.frm ∨ x.to < 0 ∨ g.states ≤ x.to ∨ x.lab < 0 ∨ g.labels ≤ x.lab
instance {g : Gr} {x : Edge} : Decidable (edgeOut g x) := by unfold edgeOut; infer_instance
def edgeCheck (g : Gr) (i : Nat) : Int := if edgeOut g (g.edges.getD i de) then 2 else if 0 < i ∧ 0 ≤ cmpE (g.edges.getD (i - 1) de) (g.edges.getD i de) then 10 else 0
/-- why a graph is not valid. -/
def gcheck (g : Gr) : Int := if g.labels < 1 ∨ 256 < g.labels then 12 else if g.states < 0 then 2 else if 64 < g.states ∨ 1024 < g.edges.length then 4 else firstNZ (edgeCheck g) (List.range g.edges.length)
section
variable {g : Gr}
theorem gcheck_labels (h : g.labels < 1 ∨ 256 < g.labels) : gcheck g = 12 := if_pos h
theorem gcheck_neg (h : ¬ (g.labels < 1 ∨ 256 < g.labels)) (h2 : g.states < 0) : gcheck g = 2 := (if_neg h).trans (if_pos h2)
theorem gcheck_limit (h : ¬ (g.labels < 1 ∨ 256 < g.labels)) (h2 : ¬ g.states < 0) (h3 : 64 < g.states ∨ 1024 < g.edges.length) : gcheck g = 4 := (if_neg h).trans ((if_neg h2).trans (if_pos h3))
structure Sized (g : Gr) : Prop where
  lab : 1 ≤ g.labels ∧ g.labels ≤ 256
  st : 0 ≤ g.states ∧ g.states ≤ 64
  ed : g.edges.length ≤ 1024
theorem gcheck_edges (h : Sized g) : gcheck g = firstNZ (edgeCheck g) (List.range g.edges.length) := by
  obtain ⟨h1, h2, h3⟩ := h
  unfold gcheck
  rw [if_neg (by omega), if_neg (by omega), if_neg (by omega)]
theorem gcheck_bad (h : Sized g) {i : Nat} (hi : i < g.edges.length) (h0 : ∀ j, j < i → edgeCheck g j = 0) {n : Int} (hn : edgeCheck g i = n) (hne : n ≠ 0) : gcheck g = n := by
  rw [gcheck_edges h, ← hn]
  exact firstNZ_range h0 hi (by rw [hn]; exact hne)
theorem gcheck_ok (h : Sized g) (h0 : ∀ j, j < g.edges.length → edgeCheck g j = 0) : gcheck g = 0 := by
  rw [gcheck_edges h]; exact firstNZ_none h0
theorem gcheck_valid (h : gcheck g = 0) : Sized g ∧ ∀ j, j < g.edges.length → edgeCheck g j = 0 := by
  unfold gcheck at h
  split at h
  · cases h
  · split at h
    · cases h
    · split at h
      · cases h
      · exact ⟨⟨by omega, by omega, by omega⟩, firstNZ_zero h⟩
theorem gcheck_fit (h : gcheck g = 0) : Fit g := by
  obtain ⟨hs, he⟩ := gcheck_valid h
  have key : ∀ x ∈ g.edges, ¬ edgeOut g x := fun x hx ho => by
    obtain ⟨j, hj, hje⟩ := List.mem_iff_getElem.1 hx
    have h1 := he j hj
    unfold edgeCheck at h1
    rw [show g.edges.getD j de = x by simp [List.getD, hj, hje], if_pos ho] at h1
    cases h1
  refine ⟨hs.st, fun x hx => ?_, fun x hx => ?_⟩
  · have := key x hx; unfold edgeOut at this; omega
  · have := key x hx; unfold edgeOut at this; omega
end
end Go.Proofs.YtfoeigajlkonpaaDoor

namespace Go.Proofs.YtfoeigajlkonpaaDoor
set_option linter.unusedSimpArgs false
set_option linter.unusedVariables false
open Go Go.Lift

/-- the place of a number in a list; -1 if it is not there. -/
def placeI : List Int → Int → Int
  | [], _ => -1
  | x :: r, v => if x = v then 0 else if placeI r v < 0 then -1 else placeI r v + 1
theorem placeI_ge : ∀ (l : List Int) (v : Int), -1 ≤ placeI l v
  | [], _ => Int.le_refl _
  | x :: r, v => by
    have := placeI_ge r v
    simp only [placeI]
    split
    · decide
    · split <;> omega
theorem placeI_some : ∀ (l : List Int) (v : Int) (k : Nat), k < l.length → (∀ j, j < k → l.getD j 0 ≠ v) → l.getD k 0 = v → placeI l v = k
  | [], _, _, h, _, _ => absurd h (Nat.not_lt_zero _)
  | x :: r, v, 0, _, _, h => by simp only [List.getD_cons_zero] at h; simp [placeI, h]
  | x :: r, v, k + 1, hk, h0, h => by
    have hx := h0 0 (Nat.succ_pos _)
    simp only [List.getD_cons_zero] at hx
    simp only [List.getD_cons_succ] at h
    have ih := placeI_some r v k (by simpa using hk) (fun j hj => by simpa using h0 (j + 1) (by omega)) h
    simp only [placeI, hx, if_false, ih]
    rw [if_neg (by omega)]; omega
theorem placeI_none : ∀ (l : List Int) (v : Int), (∀ j, j < l.length → l.getD j 0 ≠ v) → placeI l v = -1
  | [], _, _ => rfl
  | x :: r, v, h => by
    have hx := h 0 (Nat.succ_pos _)
    simp only [List.getD_cons_zero] at hx
    have ih := placeI_none r v fun j hj => by simpa using h (j + 1) (by simpa using hj)
    simp only [placeI, hx, if_false, ih]
    rfl
theorem placeI_mem : ∀ (l : List Int) (v : Int), 0 ≤ placeI l v ↔ v ∈ l
  | [], _ => by simp [placeI]
  | x :: r, v => by
    have ih := placeI_mem r v
    have := placeI_ge r v
    simp only [placeI, List.mem_cons]
    by_cases hx : x = v
    · simp [hx]
    · rw [if_neg hx]
      constructor
      · intro h
        split at h
        · omega
        · exact .inr (ih.1 (by omega))
      · rintro (h | h)
        · exact absurd h.symm hx
        · have := ih.2 h
          rw [if_neg (by omega)]; omega
def hasI (l : List Int) (v : Int) : Bool := decide (v ∈ l)
theorem hasI_place {l : List Int} {v : Int} : decide (0 ≤ placeI l v) = hasI l v := by
  unfold hasI; rw [decide_eq_decide]; exact placeI_mem l v
theorem hasI_yes {l : List Int} {v : Int} {k : Nat} (hk : k < l.length) (h : l.getD k 0 = v) : hasI l v = true := by
  unfold hasI; rw [decide_eq_true_eq, ← h]; exact getD_mem hk
theorem hasI_no {l : List Int} {v : Int} (h : ∀ j, j < l.length → l.getD j 0 ≠ v) : hasI l v = false := by
  unfold hasI
  rw [decide_eq_false_iff_not]
  intro hm
  obtain ⟨j, hj, he⟩ := List.mem_iff_getElem.1 hm
  exact h j hj (by simp [List.getD, hj, he])

def trip (a : Edge) : List Int := [a.frm, a.lab, a.to]
@[simp] theorem trip_len {a : Edge} : (trip a).length = 3 := rfl
theorem trip_cmp {a b : Edge} {k : Nat} (hk : k < 3) (h0 : ∀ j, j < k → (trip a).getD j 0 = (trip b).getD j 0) : ((trip a).getD k 0 < (trip b).getD k 0 → cmpE a b = -1) ∧ ((trip b).getD k 0 < (trip a).getD k 0 → cmpE a b = 1) := by
  have hf : ∀ c : Edge, (trip c).getD 0 0 = c.frm := fun _ => rfl
  have hl : ∀ c : Edge, (trip c).getD 1 0 = c.lab := fun _ => rfl
  have ht : ∀ c : Edge, (trip c).getD 2 0 = c.to := fun _ => rfl
  unfold cmpE
  match k, hk with
  | 0, _ =>
    rw [hf, hf]
    exact ⟨fun h => if_pos h, fun h => by rw [if_neg (by omega), if_pos h]⟩
  | 1, _ =>
    have h1 := h0 0 (by decide)
    rw [hf, hf] at h1
    rw [hl, hl]
    exact ⟨fun h => by rw [if_neg (by omega), if_neg (by omega), if_pos h], fun h => by rw [if_neg (by omega), if_neg (by omega), if_neg (by omega), if_pos h]⟩
  | 2, _ =>
    have h1 := h0 0 (by decide)
    have h2 := h0 1 (by decide)
    rw [hf, hf] at h1
    rw [hl, hl] at h2
    rw [ht, ht]
    exact ⟨fun h => by rw [if_neg (by omega), if_neg (by omega), if_neg (by omega), if_neg (by omega), if_pos h], fun h => by rw [if_neg (by omega), if_neg (by omega), if_neg (by omega), if_neg (by omega), if_neg (by omega), if_pos h]⟩
theorem trip_same {a b : Edge} (h0 : ∀ j, j < 3 → (trip a).getD j 0 = (trip b).getD j 0) : cmpE a b = 0 := by
  have h1 : a.frm = b.frm := h0 0 (by decide)
  have h2 : a.lab = b.lab := h0 1 (by decide)
  have h3 : a.to = b.to := h0 2 (by decide)
  unfold cmpE
  rw [if_neg (by omega), if_neg (by omega), if_neg (by omega), if_neg (by omega), if_neg (by omega), if_neg (by omega)]

/-- the first k rounds and, in the next one, the first i edges. -/
def roundsAt (g : Gr) (s k i : Nat) : List Bool := (g.edges.take i).foldl relax (rounds g s k)
theorem roundsAt_len {g : Gr} {s k i : Nat} : (roundsAt g s k i).length = g.n := by unfold roundsAt; rw [fold_len, rounds_len]
theorem roundsAt_succ {g : Gr} {s k i : Nat} (h : i < g.edges.length) : roundsAt g s k (i + 1) = relax (roundsAt g s k i) (g.edges.getD i de) := foldl_take_succ (d := de) _ _ _ _ h
theorem roundsAt_zero {g : Gr} {s k : Nat} : roundsAt g s k 0 = rounds g s k := by simp [roundsAt]
theorem roundsAt_all {g : Gr} {s k i : Nat} (h : g.edges.length ≤ i) : roundsAt g s k i = rounds g s (k + 1) := by
  unfold roundsAt; rw [List.take_of_length_le h]; rfl
theorem relax_yes {l : List Bool} {x : Edge} (h : l.getD x.frm.toNat false = true) (j : Nat) (hx : x.to.toNat < l.length) : (relax l x).getD j false = if j = x.to.toNat then true else l.getD j false := by
  unfold relax
  rw [if_pos h, getD_set]
  by_cases hj : j = x.to.toNat
  · rw [if_pos ⟨hj, hx⟩, if_pos hj]
  · rw [if_neg (fun e => hj e.1), if_neg hj]
theorem relax_no {l : List Bool} {x : Edge} (h : l.getD x.frm.toNat false = false) : relax l x = l := by
  unfold relax; rw [if_neg (by rw [h]; simp)]
def greatG (g : Gr) : Prop := (8 < g.states ∧ g.states ≤ 64) ∨ (30 < (g.edges.length : Int) ∧ (g.edges.length : Int) ≤ 1024) ∨ 1027 < (g.edges.length : Int)
instance {g : Gr} : Decidable (greatG g) := by unfold greatG; infer_instance
theorem gcd_next {a b x y : Nat} (hx : x ≤ 1000000) (hy : y ≤ 1000000) (he : Nat.gcd x y = Nat.gcd a b) : y ≤ 1000000 ∧ x % y ≤ 1000000 ∧ Nat.gcd y (x % y) = Nat.gcd a b :=
  ⟨hy, Nat.le_trans (Nat.mod_le x y) hx, by rw [← he, Nat.gcd_comm y, ← Nat.gcd_rec, Nat.gcd_comm]⟩
theorem edgeCheck_out {g : Gr} {k : Nat} (h : (((((g.edges.getD k de).frm < 0 ∨ g.states ≤ (g.edges.getD k de).frm) ∨ (g.edges.getD k de).to < 0) ∨ g.states ≤ (g.edges.getD k de).to) ∨ (g.edges.getD k de).lab < 0) ∨ g.labels ≤ (g.edges.getD k de).lab) : edgeCheck g k = 2 := by
  unfold edgeCheck
  rw [if_pos (by unfold edgeOut; omega)]
theorem rstart_at {g : Gr} {s j : Nat} (hs : s < g.n) : (if j = s then AVal.bool true else AVal.bool false) = .bool ((rounds g s 0).getD j false) := by
  unfold rounds rstart
  rw [getD_set]
  by_cases h : j = s
  · rw [if_pos h, if_pos ⟨h, by simpa using hs⟩]
  · rw [if_neg h, if_neg (fun e => h e.1)]
    simp only [List.getD_eq_getElem?_getD, List.getElem?_replicate]
    split <;> rfl
theorem edgeCheck_ord {g : Gr} {k : Nat} (h : ((((0 ≤ (g.edges.getD k de).frm ∧ (g.edges.getD k de).frm < g.states) ∧ 0 ≤ (g.edges.getD k de).to) ∧ (g.edges.getD k de).to < g.states) ∧ 0 ≤ (g.edges.getD k de).lab) ∧ (g.edges.getD k de).lab < g.labels) (h2 : 0 < k ∧ 0 ≤ cmpE (g.edges.getD (k - 1) de) (g.edges.getD k de)) : edgeCheck g k = 10 := by
  unfold edgeCheck
  rw [if_neg (by unfold edgeOut; omega), if_pos h2]
theorem edgeCheck_ok {g : Gr} {k : Nat} (h : ((((0 ≤ (g.edges.getD k de).frm ∧ (g.edges.getD k de).frm < g.states) ∧ 0 ≤ (g.edges.getD k de).to) ∧ (g.edges.getD k de).to < g.states) ∧ 0 ≤ (g.edges.getD k de).lab) ∧ (g.edges.getD k de).lab < g.labels) (h2 : 0 < k → cmpE (g.edges.getD (k - 1) de) (g.edges.getD k de) < 0) : edgeCheck g k = 0 := by
  unfold edgeCheck
  rw [if_neg (by unfold edgeOut; omega), if_neg (fun e => by have := h2 e.1; omega)]
theorem cmpI_zero {x y : Int} (h : (if x < y then (-1 : Int) else if y < x then 1 else 0) = 0) : x = y := by
  split at h
  · cases h
  · split at h
    · cases h
    · omega
theorem cmpI_ne {a b : Edge} {k : Nat} (hk : k < 3) (h0 : ∀ j, j < k → (trip a).getD j 0 = (trip b).getD j 0) (h : (if (trip a).getD k 0 < (trip b).getD k 0 then (-1 : Int) else if (trip b).getD k 0 < (trip a).getD k 0 then 1 else 0) ≠ 0) :
    (if (trip a).getD k 0 < (trip b).getD k 0 then (-1 : Int) else if (trip b).getD k 0 < (trip a).getD k 0 then 1 else 0) = cmpE a b := by
  obtain ⟨h1, h2⟩ := trip_cmp hk h0
  by_cases hx : (trip a).getD k 0 < (trip b).getD k 0
  · rw [if_pos hx, h1 hx]
  · by_cases hy : (trip b).getD k 0 < (trip a).getD k 0
    · rw [if_neg hx, if_pos hy, h2 hy]
    · rw [if_neg hx, if_neg hy] at h; exact absurd rfl h
end Go.Proofs.YtfoeigajlkonpaaDoor
