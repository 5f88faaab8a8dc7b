/-
  Plain: neighbours that are equal struck out; recoding.
-/
import Derived.Test.YtfoeigajlkonpaaDoorPA
import Derived.Test.YtfoeigajlkonpaaDoorPB
namespace Go.Proofs.YtfoeigajlkonpaaDoor
set_option linter.unusedSimpArgs false
set_option linter.unusedVariables false
open Go Go.Lift

section
variable {α : Type} [DecidableEq α] {d : α} {l : List α}
/-- of the first k elements those that differ from the one ahead. -/
def ddAt (d : α) (l : List α) : Nat → List α
  | 0 => []
  | k + 1 => if k ≠ 0 ∧ l.getD k d = l.getD (k - 1) d then ddAt d l k else ddAt d l k ++ [l.getD k d]
def ddL (d : α) (l : List α) : List α := ddAt d l l.length
theorem dd_len : ∀ {k : Nat}, (ddAt d l k).length ≤ k
  | 0 => by simp [ddAt]
  | k + 1 => by
    have := dd_len (k := k)
    simp only [ddAt]
    split
    · omega
    · simp; omega
theorem dd_eq {k : Nat} (hk : k ≠ 0) (h : l.getD k d = l.getD (k - 1) d) : ddAt d l (k + 1) = ddAt d l k := by
  simp only [ddAt]; rw [if_pos ⟨hk, h⟩]
theorem dd_ne {k : Nat} (h : l.getD k d ≠ l.getD (k - 1) d) : ddAt d l (k + 1) = ddAt d l k ++ [l.getD k d] := by
  simp only [ddAt]; rw [if_neg fun e => h e.2]
theorem dd_full : ∀ {k : Nat}, k ≤ l.length → (∀ j, j < k → 1 ≤ j → l.getD j d ≠ l.getD (j - 1) d) → ddAt d l k = l.take k
  | 0, _, _ => by simp [ddAt]
  | k + 1, hk, h => by
    have ih := dd_full (k := k) (by omega) fun j hj h1 => h j (by omega) h1
    have hs : l.take (k + 1) = l.take k ++ [l.getD k d] := by
      rw [List.take_succ_eq_append_getElem (by omega)]
      simp [List.getD, List.getElem?_eq_getElem (show k < l.length by omega)]
    by_cases h0 : k = 0
    · subst h0
      simp only [ddAt]
      rw [if_neg (by omega), hs]; rfl
    · rw [dd_ne (h k (by omega) (by omega)), ih, hs]
theorem dd_mem : ∀ {k : Nat} {x : α}, x ∈ ddAt d l k ↔ ∃ j, j < k ∧ l.getD j d = x
  | 0, x => by simp [ddAt]
  | k + 1, x => by
    have ih := dd_mem (k := k) (x := x)
    simp only [ddAt]
    split
    · rename_i h
      rw [ih]
      constructor
      · rintro ⟨j, hj, e⟩; exact ⟨j, by omega, e⟩
      · rintro ⟨j, hj, e⟩
        by_cases hjk : j < k
        · exact ⟨j, hjk, e⟩
        · obtain rfl : j = k := by omega
          exact ⟨j - 1, by omega, by rw [← h.2]; exact e⟩
    · rw [List.mem_append, ih, List.mem_singleton]
      constructor
      · rintro (⟨j, hj, e⟩ | e)
        · exact ⟨j, by omega, e⟩
        · exact ⟨k, by omega, e.symm⟩
      · rintro ⟨j, hj, e⟩
        by_cases hjk : j < k
        · exact .inl ⟨j, hjk, e⟩
        · obtain rfl : j = k := by omega
          exact .inr e.symm
/-- what the last one kept is. -/
theorem dd_last : ∀ {k : Nat}, 0 < k → 0 < (ddAt d l k).length ∧ (ddAt d l k).getD ((ddAt d l k).length - 1) d = l.getD (k - 1) d
  | k + 1, _ => by
    by_cases h0 : k = 0
    · subst h0; simp [ddAt]
    · have ih := dd_last (k := k) (by omega)
      by_cases h : l.getD k d = l.getD (k - 1) d
      · rw [dd_eq h0 h]
        exact ⟨ih.1, by rw [ih.2, ← h]; rfl⟩
      · rw [dd_ne h]
        refine ⟨by simp, ?_⟩
        simp [List.getD]
theorem dd_asc {R : α → α → Prop} (hR : ∀ a b c, R a b → R b c → R a c) (h : ∀ j, j + 1 < l.length → l.getD j d ≠ l.getD (j + 1) d → R (l.getD j d) (l.getD (j + 1) d)) : ∀ {k : Nat}, k ≤ l.length → (ddAt d l k).Pairwise R ∧ ∀ x ∈ ddAt d l k, 0 < k → x = l.getD (k - 1) d ∨ R x (l.getD (k - 1) d)
  | 0, _ => by simp [ddAt]
  | k + 1, hk => by
    have ih := dd_asc hR h (k := k) (by omega)
    by_cases h0 : k = 0
    · subst h0; simp [ddAt]
    · have hkk : k - 1 + 1 = k := by omega
      by_cases he : l.getD k d = l.getD (k - 1) d
      · rw [dd_eq h0 he]
        refine ⟨ih.1, fun x hx _ => ?_⟩
        rw [Nat.add_sub_cancel, he]
        exact ih.2 x hx (by omega)
      · rw [dd_ne he]
        have hr : R (l.getD (k - 1) d) (l.getD k d) := by
          have := h (k - 1) (by omega) (by rw [hkk]; exact fun e => he e.symm)
          rwa [hkk] at this
        have hall : ∀ x ∈ ddAt d l k, R x (l.getD k d) := fun x hx => by
          rcases ih.2 x hx (by omega) with e | e
          · rw [e]; exact hr
          · exact hR _ _ _ e hr
        refine ⟨List.pairwise_append.2 ⟨ih.1, List.pairwise_singleton _ _, fun a ha b hb => by rw [List.mem_singleton.1 hb]; exact hall a ha⟩, fun x hx _ => ?_⟩
        rcases List.mem_append.1 hx with hx | hx
        · exact .inr (hall x hx)
        · exact .inl (List.mem_singleton.1 hx)
/-- what lies in memory while the list is made shorter in place. -/
def ddG (d : α) (l : List α) (m i : Nat) : α := if i < (ddAt d l m).length then (ddAt d l m).getD i d else l.getD i d
theorem ddG_old {m i : Nat} (h : (ddAt d l m).length ≤ i) : ddG d l m i = l.getD i d := if_neg (by omega)
theorem ddG_full {k i : Nat} (hk : k ≤ l.length) (h : ∀ j, j < k → 1 ≤ j → l.getD j d ≠ l.getD (j - 1) d) : ddG d l k i = l.getD i d := by
  unfold ddG
  rw [dd_full hk h]
  split
  · rename_i hi
    rw [List.length_take] at hi
    simp [List.getD, List.getElem?_take, show i < k by omega]
  · rfl
theorem ddG_put {m i : Nat} (h : l.getD m d ≠ l.getD (m - 1) d) : ddG d l (m + 1) i = if i = (ddAt d l m).length then l.getD m d else ddG d l m i := by
  unfold ddG
  rw [dd_ne h]
  by_cases h1 : i = (ddAt d l m).length
  · rw [if_pos h1, if_pos (by simp [h1]), h1]; simp [List.getD]
  · rw [if_neg h1]
    by_cases h2 : i < (ddAt d l m).length
    · rw [if_pos h2, if_pos (by simp; omega)]; simp [List.getD, List.getElem?_append_left h2]
    · rw [if_neg h2, if_neg (by simp; omega)]
theorem ddG_skip {m i : Nat} (hm : m ≠ 0) (h : l.getD m d = l.getD (m - 1) d) : ddG d l (m + 1) i = ddG d l m i := by
  unfold ddG; rw [dd_eq hm h]
theorem ddL_none (h : ∀ j, j < l.length → 1 ≤ j → l.getD j d ≠ l.getD (j - 1) d) : ddL d l = l := by
  unfold ddL; rw [dd_full (Nat.le_refl _) h, List.take_length]
end

theorem dd_norm {x l : List Edge} (hp : x.Perm l) (ha : ∀ i j, i < j → j < x.length → ¬ cmpE (x.getD j de) (x.getD i de) < 0) : ddL de x = normE l := by
  have h := dd_asc (d := de) (l := x) (R := ltE) (fun a b c => ltE_trans) (fun j hj hne => by
    have := ha j (j + 1) (by omega) hj
    rw [cmp_lt] at this
    exact ltE_total this (fun e => hne e.symm)) (Nat.le_refl _)
  refine ascE_ext h.1 norm_asc fun z => ?_
  unfold ddL
  rw [norm_mem, dd_mem, ← hp.mem_iff]
  constructor
  · rintro ⟨j, hj, rfl⟩
    rw [getD_get hj]; exact List.getElem_mem hj
  · intro hz
    obtain ⟨j, hj, e⟩ := List.mem_iff_getElem.1 hz
    exact ⟨j, hj, by rw [getD_get hj]; exact e⟩
theorem norm_ext {l m : List Edge} (h : ∀ x, x ∈ l ↔ x ∈ m) : normE l = normE m := ascE_ext norm_asc norm_asc fun z => by rw [norm_mem, norm_mem, h]
theorem norm_own {l : List Edge} (h : l.Pairwise ltE) : normE l = l := (norm_of (List.Perm.refl _) h).symm

/-- edges with other labels. -/
def recE1 (l : List Int) (x : Edge) : Edge := ⟨x.frm, l.getD x.lab.toNat 0, x.to⟩
def recE (g : Gr) (l : List Int) : List Edge := g.edges.map (recE1 l)
def outB (labels n : Int) : Bool := decide (n < 0) || decide (labels ≤ n)
def recN (g : Gr) (labels : Int) (l : List Int) : Int := if gcheck g ≠ 0 then 1 else if labels < 1 ∨ 256 < labels then 2 else if (l.length : Int) ≠ g.labels then 11 else if l.any (outB labels) then 2 else mkN labels g.states (recE g l)
def recX (g : Gr) (labels : Int) (l : List Int) : Gr := if recN g labels l ≠ 0 then ⟨0, 0, []⟩ else mkX labels g.states (recE g l)
theorem rec_no {g : Gr} {labels m : Int} {l : List Int} (h : recN g labels l = m) (hm : m ≠ 0) : recX g labels l = ⟨0, 0, []⟩ := if_pos (by rw [h]; exact hm)
theorem rec_mk {g : Gr} {labels : Int} {l : List Int} (hv : gcheck g = 0) (hb : 1 ≤ labels ∧ labels ≤ 256) (hl : (l.length : Int) = g.labels) (ha : l.any (outB labels) = false) : recN g labels l = mkN labels g.states (recE g l) ∧ recX g labels l = mkX labels g.states (recE g l) := by
  have hN : recN g labels l = mkN labels g.states (recE g l) := by
    unfold recN; rw [if_neg (by omega), if_neg (by omega), if_neg (by omega), ha]; rfl
  refine ⟨hN, ?_⟩
  unfold recX
  by_cases h : recN g labels l = 0
  · rw [if_neg (by omega)]
  · rw [if_pos h, mk_no rfl (by rw [← hN]; exact h)]
/-- a list of labels makes a graph. -/
theorem rec_ok {g : Gr} {labels : Int} {l : List Int} (hv : gcheck g = 0) (hb : 1 ≤ labels ∧ labels ≤ 256) (hl : (l.length : Int) = g.labels) (hr : ∀ n ∈ l, 0 ≤ n ∧ n < labels) : recN g labels l = 0 ∧ recX g labels l = ⟨labels, g.states, normE (recE g l)⟩ := by
  have ha : l.any (outB labels) = false := List.any_eq_false.2 fun n hn => by
    have := hr n hn
    unfold outB; simp; omega
  obtain ⟨h1, h2⟩ := rec_mk hv hb hl ha
  have hz := (gcheck_valid hv).1
  have hed := hz.ed
  have hn := norm_len (l := recE g l)
  have hM : mkN labels g.states (recE g l) = 0 := by
    refine gcheck_make hb hz.st ?_ norm_asc fun x hx => ?_
    · unfold recE at hn; rw [List.length_map] at hn; unfold recE; omega
    · obtain ⟨y, hy, rfl⟩ := List.mem_map.1 (norm_mem.1 hx)
      have h3 := edge_in hv hy
      have h4 := hr (l.getD y.lab.toNat 0) (getD_mem (by omega))
      exact ⟨h3.1, h4, h3.2.2⟩
  exact ⟨h1.trans hM, by rw [h2, mk_ok hM]⟩
theorem rec_own {g : Gr} (hv : gcheck g = 0) {l : List Int} (hl : ∀ i : Nat, (i : Int) < g.labels → l.getD i 0 = i) : normE (recE g l) = g.edges := by
  have : recE g l = g.edges := by
    unfold recE
    conv => rhs; rw [← List.map_id g.edges]
    refine List.map_congr_left fun x hx => ?_
    have h3 := edge_in hv hx
    unfold recE1
    rw [hl x.lab.toNat (by omega), Int.toNat_of_nonneg h3.2.1.1]
    rfl
  rw [this, norm_own (edges_asc hv)]
theorem rec_rec {g : Gr} {a b c : List Int} {L S : Int} (h : ∀ x ∈ g.edges, c.getD x.lab.toNat 0 = b.getD (a.getD x.lab.toNat 0).toNat 0) : normE (recE ⟨L, S, normE (recE g a)⟩ b) = normE (recE g c) := by
  refine norm_ext fun x => ?_
  unfold recE
  simp only [List.mem_map]
  constructor
  · rintro ⟨y, hy, rfl⟩
    obtain ⟨z, hz, rfl⟩ := List.mem_map.1 (norm_mem.1 hy)
    refine ⟨z, hz, ?_⟩
    unfold recE1
    rw [h z hz]
  · rintro ⟨z, hz, rfl⟩
    refine ⟨recE1 a z, norm_mem.2 (List.mem_map.2 ⟨z, hz, rfl⟩), ?_⟩
    unfold recE1
    rw [h z hz]
end Go.Proofs.YtfoeigajlkonpaaDoor
