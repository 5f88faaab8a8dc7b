/-
  Plain laws of this seat: graphs, what is reached, and how it is found.
-/
import Derived.Test.YtfoeigajlkonpaaDoorLZ
namespace Go.Proofs.YtfoeigajlkonpaaDoor
set_option linter.unusedSimpArgs false
set_option linter.unusedVariables false
open Go Go.Lift

structure Edge where
  frm : Int
  lab : Int
  to : Int
deriving DecidableEq
structure Gr where
  labels : Int
  states : Int
  edges : List Edge
/-- the edges lie within the graph. -/
structure Fit (g : Gr) : Prop where
  st : 0 ≤ g.states ∧ g.states ≤ 64
  frm : ∀ x ∈ g.edges, 0 ≤ x.frm ∧ x.frm < g.states
  to : ∀ x ∈ g.edges, 0 ≤ x.to ∧ x.to < g.states
def Gr.n (g : Gr) : Nat := g.states.toNat

inductive Rch (g : Gr) (s : Nat) : Nat → Prop
  | refl : Rch g s s
  | step {t : Nat} {x : Edge} : Rch g s t → x ∈ g.edges → x.frm = (t : Int) → Rch g s x.to.toNat
theorem Rch.trans {g : Gr} {a b c : Nat} (h : Rch g a b) (k : Rch g b c) : Rch g a c := by
  induction k with
  | refl => exact h
  | step _ hx he ih => exact ih.step hx he
theorem Rch.lt {g : Gr} (hf : Fit g) {a b : Nat} (ha : a < g.n) (h : Rch g a b) : b < g.n := by
  cases h with
  | refl => exact ha
  | step _ hx _ => have := hf.to _ hx; unfold Gr.n; omega
/-- a set that holds s and whatever edges lead to holds what is reached. -/
theorem Rch.mem {g : Gr} {s : Nat} {p : Nat → Prop} (h0 : p s) (hs : ∀ x ∈ g.edges, ∀ t : Nat, x.frm = (t : Int) → p t → p x.to.toNat) {t : Nat} (h : Rch g s t) : p t := by
  induction h with
  | refl => exact h0
  | step _ hx he ih => exact hs _ hx _ he ih
open Classical in
noncomputable def reachL (g : Gr) (s : Nat) : List Bool := (List.range g.n).map fun t => decide (Rch g s t)
@[simp] theorem reachL_len {g : Gr} {s : Nat} : (reachL g s).length = g.n := by simp [reachL]
theorem reachL_at {g : Gr} {s t : Nat} (h : t < g.n) : (reachL g s).getD t false = true ↔ Rch g s t := by
  simp [reachL, List.getD, h]
/-- a list that says what a set says is this list. -/
theorem reachL_eq {g : Gr} {s : Nat} {l : List Bool} (hl : l.length = g.n) (h1 : ∀ t, t < g.n → l.getD t false = true → Rch g s t) (h2 : ∀ t, t < g.n → Rch g s t → l.getD t false = true) : l = reachL g s := by
  apply eq_of_getD (d := false)
  · simp [hl]
  · intro t ht
    have ht' : t < g.n := by omega
    rw [Bool.eq_iff_iff, reachL_at ht']
    exact ⟨h1 t ht', h2 t ht'⟩

/-- the states to which edges lead from s, in the order of the edges. -/
def adj (g : Gr) (s : Nat) : List Int := (g.edges.filter fun x => decide (x.frm = (s : Int))).map Edge.to
theorem adj_mem {g : Gr} {s : Nat} {t : Int} (h : t ∈ adj g s) : ∃ x ∈ g.edges, x.frm = (s : Int) ∧ x.to = t := by
  obtain ⟨x, hx, rfl⟩ := List.mem_map.1 h
  simp only [List.mem_filter, decide_eq_true_eq] at hx
  exact ⟨x, hx.1, hx.2, rfl⟩
theorem adj_of {g : Gr} {s : Nat} {x : Edge} (hx : x ∈ g.edges) (he : x.frm = (s : Int)) : x.to ∈ adj g s :=
  List.mem_map.2 ⟨x, by simp [hx, he], rfl⟩

/-- what visit makes of what was seen. -/
structure Dfs (g : Gr) (seen seen' : List Bool) (s : Nat) : Prop where
  len : seen'.length = g.n
  sub : ∀ t, seen.getD t false = true → seen'.getD t false = true
  own : seen'.getD s false = true
  new : ∀ u, seen'.getD u false = true → seen.getD u false = false → Rch g s u ∧ ∀ x ∈ g.edges, x.frm = (u : Int) → seen'.getD x.to.toNat false = true
/-- in the midst of the loop over the first i neighbours. -/
structure DfsM (g : Gr) (seen c : List Bool) (s i : Nat) : Prop where
  len : c.length = g.n
  sub : ∀ t, seen.getD t false = true → c.getD t false = true
  own : c.getD s false = true
  new : ∀ u, c.getD u false = true → seen.getD u false = false → Rch g s u ∧ (u ≠ s → ∀ x ∈ g.edges, x.frm = (u : Int) → c.getD x.to.toNat false = true)
  nb : ∀ j, j < i → c.getD ((adj g s).getD j 0).toNat false = true
theorem getD_set {α : Type} {l : List α} {i j : Nat} {v d : α} : (l.set i v).getD j d = if j = i ∧ i < l.length then v else l.getD j d := by
  simp only [List.getD_eq_getElem?_getD, List.getElem?_set]
  by_cases h : i = j
  · subst h
    by_cases h2 : i < l.length
    · simp [h2]
    · simp [h2]
  · rw [if_neg h, if_neg (fun e => h e.1.symm)]
section
variable {g : Gr} {seen c c' : List Bool} {s : Nat}
theorem DfsM.first (hl : seen.length = g.n) (hs : s < g.n) : DfsM g seen (seen.set s true) s 0 := by
  refine ⟨by simpa using hl, fun t ht => ?_, ?_, fun u hu hn => ?_, fun j hj => absurd hj (Nat.not_lt_zero _)⟩
  · rw [getD_set]; split
    · rfl
    · exact ht
  · rw [getD_set, if_pos ⟨rfl, by omega⟩]
  · rw [getD_set] at hu
    split at hu
    · rename_i h; rw [h.1]; exact ⟨.refl, fun h2 => absurd rfl h2⟩
    · rw [hn] at hu; cases hu
theorem DfsM.skip {i : Nat} (h : DfsM g seen c s i) (hc : c.getD ((adj g s).getD i 0).toNat false = true) : DfsM g seen c s (i + 1) :=
  ⟨h.len, h.sub, h.own, h.new, step_all h.nb hc⟩
theorem DfsM.call {i : Nat} (hf : Fit g) (h : DfsM g seen c s i) (hi : i < (adj g s).length) (hd : Dfs g c c' ((adj g s).getD i 0).toNat) : DfsM g seen c' s (i + 1) := by
  obtain ⟨x, hx, he, ht⟩ := adj_mem (getD_mem (d := 0) hi)
  have hst : Rch g s ((adj g s).getD i 0).toNat := by rw [← ht]; exact Rch.refl.step hx he
  refine ⟨hd.len, fun t ht => hd.sub t (h.sub t ht), hd.sub _ h.own, fun u hu hn => ?_, step_all (fun j hj => hd.sub _ (h.nb j hj)) hd.own⟩
  cases hcu : c.getD u false with
  | true =>
    obtain ⟨h1, h2⟩ := h.new u hcu hn
    exact ⟨h1, fun hne y hy hye => hd.sub _ (h2 hne y hy hye)⟩
  | false =>
    obtain ⟨h1, h2⟩ := hd.new u hu hcu
    exact ⟨hst.trans h1, fun _ => h2⟩
theorem DfsM.done (h : DfsM g seen c s (adj g s).length) : Dfs g seen c s := by
  refine ⟨h.len, h.sub, h.own, fun u hu hn => ⟨(h.new u hu hn).1, fun x hx he => ?_⟩⟩
  by_cases hus : u = s
  · subst hus
    obtain ⟨j, hj, hje⟩ := List.mem_iff_getElem.1 (adj_of hx he)
    have := h.nb j hj
    rwa [show (adj g u).getD j 0 = x.to by simp [List.getD, hj, hje]] at this
  · exact (h.new u hu hn).2 hus x hx he
theorem Dfs.all (hf : Fit g) (hs : s < g.n) (h : Dfs g (List.replicate g.n false) c s) : c = reachL g s := by
  have hfalse : ∀ u, (List.replicate g.n false).getD u false = false := fun u => by
    simp only [List.getD_eq_getElem?_getD, List.getElem?_replicate]; split <;> rfl
  refine reachL_eq h.len (fun t ht hc => (h.new t hc (hfalse t)).1) fun t ht hr => ?_
  exact hr.mem (p := fun t => c.getD t false = true) h.own fun x hx u he hu => (h.new u hu (hfalse u)).2 x hx he
/-- how many are not yet seen. -/
def unseen : List Bool → Nat
  | [] => 0
  | b :: r => (if b then 0 else 1) + unseen r
theorem unseen_set : ∀ {l : List Bool} {s : Nat}, s < l.length → l.getD s false = false → unseen (l.set s true) + 1 = unseen l
  | [], _, h, _ => absurd h (Nat.not_lt_zero _)
  | b :: r, 0, _, h => by
    simp only [List.getD_cons_zero] at h
    subst h
    simp [unseen]; omega
  | b :: r, s + 1, hs, h => by
    simp only [List.getD_cons_succ] at h
    have := unseen_set (l := r) (s := s) (by simpa using hs) h
    simp only [List.set_cons_succ, unseen]
    omega
theorem unseen_mono : ∀ {l m : List Bool}, l.length = m.length → (∀ t, l.getD t false = true → m.getD t false = true) → unseen m ≤ unseen l
  | [], [], _, _ => Nat.le_refl _
  | [], _ :: _, h, _ => by simp at h
  | _ :: _, [], h, _ => by simp at h
  | b :: r, b' :: r', hl, h => by
    have ih := unseen_mono (l := r) (m := r') (by simpa using hl) fun t ht => by simpa using h (t + 1) (by simpa using ht)
    have h0 := h 0
    simp only [List.getD_cons_zero] at h0
    simp only [unseen]
    cases b <;> cases b' <;> simp at h0 ⊢ <;> omega
end

theorem unseen_strict : ∀ {l m : List Bool}, l.length = m.length → (∀ t, l.getD t false = true → m.getD t false = true) → l ≠ m → unseen m < unseen l
  | [], [], _, _, h => absurd rfl h
  | [], _ :: _, h, _, _ => by simp at h
  | _ :: _, [], h, _, _ => by simp at h
  | b :: r, b' :: r', hl, h, hne => by
    have hl' : r.length = r'.length := by simpa using hl
    have hr : ∀ t, r.getD t false = true → r'.getD t false = true := fun t ht => by simpa using h (t + 1) (by simpa using ht)
    have h1 := unseen_mono hl' hr
    have h0 := h 0
    simp only [List.getD_cons_zero] at h0
    simp only [unseen]
    by_cases hb : b = b'
    · subst hb
      have := unseen_strict hl' hr fun e => hne (by rw [e])
      omega
    · cases b <;> cases b' <;> simp at h0 hb ⊢ <;> omega
theorem unseen_le : ∀ (l : List Bool), unseen l ≤ l.length
  | [] => Nat.le_refl _
  | b :: r => by
    have := unseen_le r
    simp only [unseen, List.length_cons]
    split <;> omega

/-- one edge of a round of the reference. -/
def relax (l : List Bool) (x : Edge) : List Bool := if l.getD x.frm.toNat false = true then l.set x.to.toNat true else l
def rround (g : Gr) (l : List Bool) : List Bool := g.edges.foldl relax l
def rstart (g : Gr) (s : Nat) : List Bool := (List.replicate g.n false).set s true
def rounds (g : Gr) (s : Nat) : Nat → List Bool
  | 0 => rstart g s
  | k + 1 => rround g (rounds g s k)
theorem relax_len {l : List Bool} {x : Edge} : (relax l x).length = l.length := by unfold relax; split <;> simp
theorem relax_sub {l : List Bool} {x : Edge} {t : Nat} (h : l.getD t false = true) : (relax l x).getD t false = true := by
  unfold relax
  split
  · rw [getD_set]; split
    · rfl
    · exact h
  · exact h
theorem fold_len : ∀ (es : List Edge) (l : List Bool), (es.foldl relax l).length = l.length
  | [], _ => rfl
  | x :: es, l => by rw [List.foldl_cons, fold_len es, relax_len]
theorem fold_sub : ∀ (es : List Edge) (l : List Bool) (t : Nat), l.getD t false = true → (es.foldl relax l).getD t false = true
  | [], _, _, h => h
  | x :: es, l, t, h => by rw [List.foldl_cons]; exact fold_sub es _ t (relax_sub h)
theorem fold_to : ∀ (es : List Edge) (l : List Bool) (x : Edge), x ∈ es → x.to.toNat < l.length → l.getD x.frm.toNat false = true → (es.foldl relax l).getD x.to.toNat false = true
  | [], _, _, h, _, _ => by cases h
  | y :: es, l, x, h, hlt, hl => by
    rw [List.foldl_cons]
    cases h with
    | head =>
      refine fold_sub es _ _ ?_
      unfold relax
      rw [if_pos hl, getD_set, if_pos ⟨rfl, hlt⟩]
    | tail _ h => exact fold_to es _ x h (by rw [relax_len]; exact hlt) (relax_sub hl)
theorem fold_sound {g : Gr} {s : Nat} (hf : Fit g) : ∀ (es : List Edge) (l : List Bool), (∀ x ∈ es, x ∈ g.edges) → (∀ t, l.getD t false = true → Rch g s t) → ∀ t, (es.foldl relax l).getD t false = true → Rch g s t
  | [], _, _, h => h
  | x :: es, l, hs, h => by
    rw [List.foldl_cons]
    refine fold_sound hf es _ (fun y hy => hs y (List.mem_cons_of_mem _ hy)) fun t ht => ?_
    unfold relax at ht
    split at ht
    · rename_i hx
      rw [getD_set] at ht
      split at ht
      · rename_i h2
        rw [h2.1]
        have hxe := hs x List.mem_cons_self
        have := hf.frm x hxe
        exact (h _ hx).step hxe (by omega)
      · exact h t ht
    · exact h t ht
theorem rounds_len {g : Gr} {s : Nat} : ∀ k, (rounds g s k).length = g.n
  | 0 => by simp [rounds, rstart]
  | k + 1 => by rw [rounds, rround, fold_len, rounds_len k]
theorem rounds_sound {g : Gr} {s : Nat} (hf : Fit g) : ∀ k t, (rounds g s k).getD t false = true → Rch g s t
  | 0, t, h => by
    unfold rounds rstart at h
    rw [getD_set] at h
    split at h
    · rename_i h2; rw [h2.1]; exact .refl
    · simp only [List.getD_eq_getElem?_getD, List.getElem?_replicate] at h
      split at h <;> cases h
  | k + 1, t, h => fold_sound hf g.edges _ (fun _ h => h) (rounds_sound hf k) t h
theorem rounds_own {g : Gr} {s : Nat} (hs : s < g.n) : ∀ k, (rounds g s k).getD s false = true
  | 0 => by unfold rounds rstart; rw [getD_set, if_pos ⟨rfl, by simpa using hs⟩]
  | k + 1 => fold_sub _ _ _ (rounds_own hs k)
theorem rounds_all {g : Gr} {s : Nat} (hf : Fit g) (hs : s < g.n) : rounds g s g.n = reachL g s := by
  have key : ∀ k, (∃ j, j ≤ k ∧ rround g (rounds g s j) = rounds g s j) ∨ unseen (rounds g s k) + k ≤ unseen (rounds g s 0) := by
    intro k
    induction k with
    | zero => exact .inr (by omega)
    | succ k ih =>
      rcases ih with ⟨j, hj, h⟩ | ih
      · exact .inl ⟨j, by omega, h⟩
      · by_cases h : rround g (rounds g s k) = rounds g s k
        · exact .inl ⟨k, by omega, h⟩
        · right
          have := unseen_strict (l := rounds g s k) (m := rounds g s (k + 1)) (by rw [rounds_len, rounds_len]) (fun t ht => fold_sub _ _ _ ht) (fun e => h e.symm)
          omega
  have h0 : unseen (rounds g s 0) < g.n := by
    have h1 := unseen_set (l := List.replicate g.n false) (s := s) (by simpa using hs) (by simp only [List.getD_eq_getElem?_getD, List.getElem?_replicate]; split <;> rfl)
    have h2 := unseen_le (List.replicate g.n false)
    simp only [List.length_replicate] at h2
    have : unseen (rounds g s 0) = unseen ((List.replicate g.n false).set s true) := rfl
    omega
  obtain ⟨j, hj, hfix⟩ : ∃ j, j ≤ g.n ∧ rround g (rounds g s j) = rounds g s j := by
    rcases key g.n with h | h
    · exact h
    · omega
  have hstay : ∀ i, rounds g s (j + i) = rounds g s j := by
    intro i
    induction i with
    | zero => rfl
    | succ i ih => show rround g (rounds g s (j + i)) = _; rw [ih, hfix]
  have he : rounds g s g.n = rounds g s j := by have := hstay (g.n - j); rwa [show j + (g.n - j) = g.n by omega] at this
  rw [he]
  refine reachL_eq (rounds_len j) (fun t _ ht => rounds_sound hf j t ht) fun t _ hr => ?_
  refine hr.mem (p := fun t => (rounds g s j).getD t false = true) (rounds_own hs j) fun x hx u hu hpu => ?_
  have := fold_to g.edges (rounds g s j) x hx (by rw [rounds_len]; have := hf.to x hx; unfold Gr.n; omega) (by rw [hu]; exact hpu)
  have h2 : (g.edges.foldl relax (rounds g s j)) = rounds g s j := hfix
  rwa [h2] at this
theorem unseen_less {g : Gr} {seen c : List Bool} {s i : Nat} (hl : seen.length = g.n) (hs : s < g.n) (hn : seen.getD s false = false) (h : DfsM g seen c s i) : unseen c < unseen seen := by
  have h1 := unseen_set (l := seen) (s := s) (by omega) hn
  have h2 := unseen_mono (l := seen.set s true) (m := c) (by rw [List.length_set, hl, h.len]) fun t ht => by
    rw [getD_set] at ht
    split at ht
    · rename_i hts; rw [hts.1]; exact h.own
    · exact h.sub t ht
  omega
end Go.Proofs.YtfoeigajlkonpaaDoor

namespace Go.Proofs.YtfoeigajlkonpaaDoor
set_option linter.unusedSimpArgs false
set_option linter.unusedVariables false
open Go Go.Lift

/-- both ways reached, as a test on the lists. -/
noncomputable def mutB (g : Gr) (s t : Nat) : Bool := (reachL g s).getD t false && (reachL g t).getD s false
/-- the members of the component of s among the first k states. -/
noncomputable def compAt (g : Gr) (s k : Nat) : List Int := ((List.range k).filter fun t => mutB g s t).map fun (t : Nat) => (t : Int)
noncomputable def compL (g : Gr) (s : Nat) : List Int := compAt g s g.n
theorem compAt_succ {g : Gr} {s k : Nat} : compAt g s (k + 1) = if mutB g s k then compAt g s k ++ [(k : Int)] else compAt g s k := by
  unfold compAt
  rw [List.range_succ, List.filter_append, List.map_append]
  cases h : mutB g s k <;> simp [h]
theorem compAt_len {g : Gr} {s k : Nat} : (compAt g s k).length ≤ k := by
  unfold compAt
  have := List.length_filter_le (fun t => mutB g s t) (List.range k)
  simp at this ⊢; exact this
/-- whether s is the least of its component. -/
noncomputable def least (g : Gr) (s : Nat) : Bool := decide ((compL g s).getD 0 0 = (s : Int))
noncomputable def compsAt (g : Gr) (k : Nat) : List (List Int) := ((List.range k).filter fun s => least g s).map fun s => compL g s
noncomputable def compsL (g : Gr) : List (List Int) := compsAt g g.n
theorem compsAt_succ {g : Gr} {k : Nat} : compsAt g (k + 1) = if least g k then compsAt g k ++ [compL g k] else compsAt g k := by
  unfold compsAt
  rw [List.range_succ, List.filter_append, List.map_append]
  cases h : least g k <;> simp [h]
theorem mutB_own {g : Gr} {s : Nat} (hs : s < g.n) : mutB g s s = true := by
  have h1 := (reachL_at (g := g) (s := s) hs).2 .refl
  unfold mutB
  rw [h1]; rfl
theorem comp_mem {g : Gr} {s k t : Nat} : (t : Int) ∈ compAt g s k ↔ t < k ∧ mutB g s t = true := by
  unfold compAt
  constructor
  · intro h
    obtain ⟨u, hu, he⟩ := List.mem_map.1 h
    have : u = t := by exact_mod_cast he
    subst this
    simpa using hu
  · intro h
    exact List.mem_map.2 ⟨t, by simpa using h, rfl⟩
theorem comp_nonneg {g : Gr} {s k : Nat} {v : Int} (h : v ∈ compAt g s k) : ∃ t : Nat, v = (t : Int) ∧ t < k ∧ mutB g s t = true := by
  obtain ⟨u, hu, rfl⟩ := List.mem_map.1 h
  exact ⟨u, rfl, by simpa using hu⟩
theorem compL_pos {g : Gr} {s : Nat} (hs : s < g.n) : 0 < (compL g s).length := by
  have : (s : Int) ∈ compL g s := comp_mem.2 ⟨hs, mutB_own hs⟩
  exact List.length_pos_of_mem this
/-- the head is the least member. -/
theorem compAt_head {g : Gr} {s : Nat} : ∀ k, 0 < (compAt g s k).length → ∀ v ∈ compAt g s k, (compAt g s k).getD 0 0 ≤ v
  | 0, h, _, _ => by simp [compAt] at h
  | k + 1, h, v, hv => by
    rw [compAt_succ] at h hv ⊢
    split at hv
    · rename_i hm
      rw [if_pos hm]
      rcases List.mem_append.1 hv with hv | hv
      · have h0 : 0 < (compAt g s k).length := List.length_pos_of_mem hv
        rw [show (compAt g s k ++ [(k : Int)]).getD 0 0 = (compAt g s k).getD 0 0 by
          simp only [List.getD_eq_getElem?_getD]; rw [List.getElem?_append_left h0]]
        exact compAt_head k h0 v hv
      · have hv' : v = (k : Int) := by simpa using hv
        subst hv'
        by_cases h0 : 0 < (compAt g s k).length
        · rw [show (compAt g s k ++ [(k : Int)]).getD 0 0 = (compAt g s k).getD 0 0 by
            simp only [List.getD_eq_getElem?_getD]; rw [List.getElem?_append_left h0]]
          obtain ⟨t, ht, htk, _⟩ := comp_nonneg (getD_mem (d := 0) h0)
          rw [ht]; omega
        · have : compAt g s k = [] := List.length_eq_zero_iff.1 (by omega)
          rw [this]; simp
    · rename_i hm
      rw [if_neg hm] at h ⊢
      exact compAt_head k h v hv
theorem least_iff {g : Gr} {s : Nat} (hs : s < g.n) : least g s = true ↔ ∀ t, t < g.n → mutB g s t = true → s ≤ t := by
  unfold least
  rw [decide_eq_true_eq]
  have hm : (s : Int) ∈ compL g s := comp_mem.2 ⟨hs, mutB_own hs⟩
  have hh := compAt_head g.n (compL_pos hs)
  obtain ⟨u, hu, huk, hum⟩ := comp_nonneg (getD_mem (d := 0) (compL_pos hs))
  constructor
  · intro h t ht hmt
    have := hh _ (comp_mem.2 ⟨ht, hmt⟩)
    have h2 : (compAt g s g.n).getD 0 0 = (s : Int) := h
    omega
  · intro h
    have h1 := hh _ hm
    have h2 := h u huk hum
    show (compL g s).getD 0 0 = (s : Int)
    have h3 : (compAt g s g.n).getD 0 0 = (u : Int) := hu
    have h4 : (compL g s).getD 0 0 = (u : Int) := hu
    omega
end Go.Proofs.YtfoeigajlkonpaaDoor
