/-
  Plain laws of this seat: lists that are sorted by exchanging neighbours; what a search from a state finds.
-/
import Derived.Test.YtkmnnmclebdjlaaPM
namespace Go.Proofs.Ytkmnnmclebdjlaa
set_option linter.unusedSimpArgs false
set_option linter.unusedVariables false
open Go Go.Lift

/-- the neighbours j - 1 and j change places. -/
def swapN (l : List Int) (j : Nat) : List Int := (l.set j (l.getD (j - 1) 0)).set (j - 1) (l.getD j 0)
theorem swapN_len {l : List Int} {j : Nat} : (swapN l j).length = l.length := by simp [swapN]
theorem swapN_perm {l : List Int} {j : Nat} (hj : j < l.length) : (swapN l j).Perm l := by
  unfold swapN
  rw [getD_get (show j - 1 < l.length by omega), getD_get hj]
  exact List.set_set_perm hj (by omega)
theorem swapN_at {l : List Int} {j k : Nat} (h0 : 0 < j) (hj : j < l.length) : (swapN l j).getD k 0 = if k = j - 1 then l.getD j 0 else if k = j then l.getD (j - 1) 0 else l.getD k 0 := by
  unfold swapN
  rw [getI_set, getI_set]
  simp only [List.length_set]
  by_cases e : k = j - 1
  · rw [if_pos ⟨e, by omega⟩, if_pos e]
  · rw [if_neg (by omega), if_neg e]
    by_cases e2 : k = j
    · rw [if_pos ⟨e2, by omega⟩, if_pos e2]
    · rw [if_neg (by omega), if_neg e2]
/-- the first i numbers are in order. -/
def Asc (l : List Int) (i : Nat) : Prop := ∀ p q, p < q → q < i → l.getD p 0 ≤ l.getD q 0
/-- the first i + 1 numbers are in order, but for the one at j, which is not greater than those behind it. -/
structure AscBut (l : List Int) (i j : Nat) : Prop where
  le : j ≤ i
  oth : ∀ p q, p < q → q ≤ i → p ≠ j → q ≠ j → l.getD p 0 ≤ l.getD q 0
  up : ∀ q, j < q → q ≤ i → l.getD j 0 ≤ l.getD q 0
theorem AscBut.first {l : List Int} {i : Nat} (h : Asc l i) : AscBut l i i :=
  ⟨Nat.le_refl _, fun p q hpq hq _ hqi => h p q hpq (by omega), fun q h1 h2 => by omega⟩
theorem AscBut.swap {l : List Int} {i j : Nat} (h : AscBut l i j) (hi : i < l.length) (h0 : 0 < j) (hlt : l.getD j 0 < l.getD (j - 1) 0) : AscBut (swapN l j) i (j - 1) := by
  have hj := h.le
  refine ⟨by omega, fun p q hpq hq hp hq2 => ?_, fun q h1 h2 => ?_⟩
  · rw [swapN_at h0 (by omega), swapN_at h0 (by omega), if_neg hp, if_neg hq2]
    by_cases ep : p = j
    · rw [if_pos ep, if_neg (by omega)]
      exact h.oth (j - 1) q (by omega) hq (by omega) (by omega)
    · rw [if_neg ep]
      by_cases eq : q = j
      · rw [if_pos eq]
        by_cases e3 : p = j - 1
        · omega
        · exact h.oth p (j - 1) (by omega) (by omega) ep (by omega)
      · rw [if_neg eq]; exact h.oth p q hpq hq ep eq
  · rw [swapN_at h0 (by omega), swapN_at h0 (by omega), if_pos rfl, if_neg (by omega)]
    by_cases e : q = j
    · rw [if_pos e]; omega
    · rw [if_neg e]; exact h.up q (by omega) h2
theorem AscBut.fin {l : List Int} {i j : Nat} (h : AscBut l i j) (hd : j = 0 ∨ ¬ l.getD j 0 < l.getD (j - 1) 0) : Asc l (i + 1) := by
  intro p q hpq hq
  by_cases ep : p = j
  · rw [ep]; exact h.up q (by omega) (by omega)
  · by_cases eq : q = j
    · rw [eq]
      rcases hd with hd | hd
      · omega
      · by_cases e3 : p = j - 1
        · rw [e3]; omega
        · have := h.oth p (j - 1) (by omega) (by omega) ep (by omega)
          omega
    · exact h.oth p q hpq (by omega) ep eq
/-- two lists in strict order of the same numbers are the same. -/
theorem asc_ext : ∀ {l m : List Int}, l.Pairwise (· < ·) → m.Pairwise (· < ·) → (∀ x, x ∈ l ↔ x ∈ m) → l = m
  | [], [], _, _, _ => rfl
  | [], b :: m, _, _, h => absurd ((h b).2 List.mem_cons_self) (by simp)
  | a :: l, [], _, _, h => absurd ((h a).1 List.mem_cons_self) (by simp)
  | a :: l, b :: m, hl, hm, h => by
    rw [List.pairwise_cons] at hl hm
    have hab : a = b := by
      rcases List.mem_cons.1 ((h a).1 List.mem_cons_self) with h1 | h1
      · exact h1
      · rcases List.mem_cons.1 ((h b).2 List.mem_cons_self) with h2 | h2
        · exact h2.symm
        · have := hm.1 a h1; have := hl.1 b h2; omega
    subst hab
    rw [asc_ext hl.2 hm.2 fun x => ?_]
    constructor
    · intro hx
      rcases List.mem_cons.1 ((h x).1 (List.mem_cons_of_mem _ hx)) with h1 | h1
      · have := hl.1 x hx; omega
      · exact h1
    · intro hx
      rcases List.mem_cons.1 ((h x).2 (List.mem_cons_of_mem _ hx)) with h1 | h1
      · have := hm.1 x hx; omega
      · exact h1
/-- a list in order, without repetition, is in strict order. -/
theorem asc_strict {l : List Int} (h : Asc l l.length) (hn : l.Nodup) : l.Pairwise (· < ·) := by
  rw [List.pairwise_iff_getElem]
  intro i j hi hj hij
  have h1 := h i j hij hj
  rw [getD_get hi, getD_get hj] at h1
  have h2 := List.pairwise_iff_getElem.1 hn i j hi hj hij
  omega
theorem nodup_len : ∀ {l m : List Int}, l.Nodup → (∀ x ∈ l, x ∈ m) → l.length ≤ m.length
  | [], _, _, _ => Nat.zero_le _
  | a :: l, m, hn, h => by
    have hn' := List.nodup_cons.1 hn
    have ha := h a List.mem_cons_self
    have := nodup_len (m := m.erase a) hn'.2 fun x hx => (List.mem_erase_of_ne (fun e => hn'.1 (by rw [← e]; exact hx))).2 (h x (List.mem_cons_of_mem _ hx))
    rw [List.length_erase_of_mem ha] at this
    have := List.length_pos_of_mem ha
    simp only [List.length_cons]
    omega

/-- what is reached, as numbers in order. -/
noncomputable def rchI (g : Gr) (s : Nat) : List Int := ((List.range g.n).filter fun t => (reachL g s).getD t false).map fun (t : Nat) => (t : Int)
theorem rchI_asc {g : Gr} {s : Nat} : (rchI g s).Pairwise (· < ·) := by
  unfold rchI
  rw [List.pairwise_map]
  exact (List.Pairwise.filter _ List.pairwise_lt_range).imp fun h => by omega
theorem rchI_mem {g : Gr} (hf : Fit g) {s : Nat} (hs : s < g.n) {x : Int} : x ∈ rchI g s ↔ 0 ≤ x ∧ Rch g s x.toNat := by
  constructor
  · intro h
    obtain ⟨u, hu, rfl⟩ := List.mem_map.1 h
    have := rchAt_mem.1 h
    exact ⟨by omega, (reachL_at this.1).1 this.2⟩
  · rintro ⟨h0, hr⟩
    have hx := Rch.lt hf hs hr
    have := (rchAt_mem (g := g) (s := s) (k := g.n) (t := x.toNat)).2 ⟨hx, (reachL_at hx).2 hr⟩
    rwa [show ((x.toNat : Nat) : Int) = x by omega] at this
/-- the search: the first j numbers of the list are through, and the first i edges of the next one. -/
structure Srch (g : Gr) (s : Nat) (l : List Int) (j i : Nat) : Prop where
  nodup : l.Nodup
  own : (s : Int) ∈ l
  rch : ∀ x ∈ l, x ∈ rchI g s
  le : j ≤ l.length
  done : ∀ k, k < j → ∀ x ∈ g.edges, x.frm = l.getD k 0 → x.to ∈ l
  part : ∀ x ∈ g.edges.take i, x.frm = l.getD j 0 → x.to ∈ l
theorem Srch.start {g : Gr} (hf : Fit g) {s : Nat} (hs : s < g.n) : Srch g s [(s : Int)] 0 0 :=
  ⟨by simp, by simp, fun x hx => by
    have : x = (s : Int) := by simpa using hx
    subst this
    exact (rchI_mem hf hs).2 ⟨by omega, by simpa using Rch.refl⟩, Nat.zero_le _, fun k h => absurd h (Nat.not_lt_zero _), fun x hx => by simp at hx⟩
theorem Srch.len {g : Gr} {s : Nat} {l : List Int} {j i : Nat} (h : Srch g s l j i) : l.length ≤ g.n := by
  have h1 := nodup_len h.nodup h.rch
  have h2 : (rchI g s).length ≤ g.n := by
    unfold rchI
    rw [List.length_map]
    exact Nat.le_trans (List.length_filter_le _ _) (by simp)
  omega
theorem Srch.skip {g : Gr} {s : Nat} {l : List Int} {j i : Nat} (h : Srch g s l j i) (hi : i < g.edges.length) (hn : (g.edges.getD i de).frm = l.getD j 0 → (g.edges.getD i de).to ∈ l) : Srch g s l j (i + 1) :=
  ⟨h.nodup, h.own, h.rch, h.le, h.done, fun x hx he => by
    rcases take_at hi hx with h1 | rfl
    · exact h.part x h1 he
    · exact hn he⟩
theorem Srch.push {g : Gr} (hf : Fit g) {s : Nat} (hs : s < g.n) {l : List Int} {j i : Nat} (h : Srch g s l j i) (hj : j < l.length) (hi : i < g.edges.length) (he : (g.edges.getD i de).frm = l.getD j 0) (hn : (g.edges.getD i de).to ∉ l) : Srch g s (l ++ [(g.edges.getD i de).to]) j (i + 1) := by
  have hx := getD_mem (d := de) hi
  have hto := hf.to _ hx
  have hat : ∀ k, k < l.length → (l ++ [(g.edges.getD i de).to]).getD k 0 = l.getD k 0 := fun k hk => by
    simp only [List.getD_eq_getElem?_getD]; rw [List.getElem?_append_left hk]
  refine ⟨?_, List.mem_append_left _ h.own, fun x hm => ?_, by simp; omega, fun k hk x hx2 he2 => ?_, fun x hx2 he2 => ?_⟩
  · rw [List.nodup_append]
    refine ⟨h.nodup, by simp, fun a ha b hb e => ?_⟩
    have : b = (g.edges.getD i de).to := by simpa [-List.getD_eq_getElem?_getD] using hb
    rw [e, this] at ha; exact hn ha
  · rcases List.mem_append.1 hm with h1 | h1
    · exact h.rch x h1
    · have : x = (g.edges.getD i de).to := by simpa [-List.getD_eq_getElem?_getD] using h1
      rw [this]
      have h2 := (rchI_mem hf hs).1 (h.rch _ (getD_mem (d := 0) hj))
      exact (rchI_mem hf hs).2 ⟨hto.1, h2.2.step hx (by omega)⟩
  · have := h.le
    rw [hat k (by omega)] at he2
    exact List.mem_append_left _ (h.done k hk x hx2 he2)
  · rw [hat j hj] at he2
    rcases take_at hi hx2 with h1 | rfl
    · exact List.mem_append_left _ (h.part x h1 he2)
    · exact List.mem_append_right _ (by simp)
theorem Srch.next {g : Gr} {s : Nat} {l : List Int} {j i : Nat} (h : Srch g s l j i) (hj : j < l.length) (hi : g.edges.length ≤ i) : Srch g s l (j + 1) 0 :=
  ⟨h.nodup, h.own, h.rch, by omega, fun k hk x hx he => by
    by_cases e : k = j
    · subst e; exact h.part x (by rw [List.take_of_length_le hi]; exact hx) he
    · exact h.done k (by omega) x hx he, fun x hx => by simp at hx⟩
theorem Srch.all {g : Gr} (hf : Fit g) {s : Nat} (hs : s < g.n) {l : List Int} {i : Nat} (h : Srch g s l l.length i) {x : Int} : x ∈ l ↔ x ∈ rchI g s := by
  refine ⟨h.rch x, fun hx => ?_⟩
  have h1 := (rchI_mem hf hs).1 hx
  have := Rch.mem (p := fun t => (t : Int) ∈ l) h.own (fun y hy t he ht => by
    obtain ⟨k, hk, e⟩ := List.mem_iff_getElem.1 ht
    have hto := hf.to y hy
    rw [show ((y.to.toNat : Nat) : Int) = y.to by omega]
    exact h.done k hk y hy (by rw [getD_get hk, e]; exact he)) h1.2
  rwa [show ((x.toNat : Nat) : Int) = x by omega] at this
/-- sorted, the found are the reached. -/
theorem Srch.sorted {g : Gr} (hf : Fit g) {s : Nat} (hs : s < g.n) {l m : List Int} {i : Nat} (h : Srch g s l l.length i) (hp : m.Perm l) (ha : Asc m m.length) : m = rchI g s :=
  asc_ext (asc_strict ha (hp.nodup_iff.2 h.nodup)) rchI_asc fun x => by rw [hp.mem_iff, h.all hf hs]
end Go.Proofs.Ytkmnnmclebdjlaa
