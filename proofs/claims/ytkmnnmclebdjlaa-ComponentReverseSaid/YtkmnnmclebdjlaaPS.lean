/-
  Plain laws of this seat: the part of a graph on some of its states.
-/
import Derived.Test.YtkmnnmclebdjlaaPM
namespace Go.Proofs.Ytkmnnmclebdjlaa
set_option linter.unusedSimpArgs false
set_option linter.unusedVariables false
open Go Go.Lift

/-- how many numbers of c are less than v. -/
def rankI (c : List Int) (v : Int) : Nat := (c.filter fun u => decide (u < v)).length
theorem rank_cons {a v : Int} {l : List Int} : rankI (a :: l) v = (if a < v then 1 else 0) + rankI l v := by
  unfold rankI
  by_cases h : a < v <;> simp [h]; omega
theorem rank_zero {v : Int} : ∀ {l : List Int}, (∀ u ∈ l, ¬ u < v) → rankI l v = 0
  | [], _ => rfl
  | a :: l, h => by rw [rank_cons, if_neg (h a List.mem_cons_self), rank_zero fun u hu => h u (List.mem_cons_of_mem _ hu)]
theorem rank_at : ∀ {c : List Int}, c.Pairwise (· < ·) → ∀ i, i < c.length → rankI c (c.getD i 0) = i
  | a :: l, h, 0, _ => by
    rw [List.pairwise_cons] at h
    show rankI (a :: l) a = 0
    rw [rank_cons, if_neg (by omega), rank_zero fun u hu => by have := h.1 u hu; omega]
  | a :: l, h, i + 1, hi => by
    rw [List.pairwise_cons] at h
    have hi' : i < l.length := by simpa using hi
    show rankI (a :: l) (l.getD i 0) = i + 1
    rw [rank_cons, if_pos (h.1 _ (getD_mem hi')), rank_at h.2 i hi']
    omega
theorem mem_getD {c : List Int} {v : Int} (h : v ∈ c) : ∃ i, i < c.length ∧ c.getD i 0 = v := by
  obtain ⟨i, hi, e⟩ := List.mem_iff_getElem.1 h
  exact ⟨i, hi, by rw [getD_get hi]; exact e⟩
theorem rank_lt {c : List Int} (hc : c.Pairwise (· < ·)) {v : Int} (h : v ∈ c) : rankI c v < c.length := by
  obtain ⟨i, hi, rfl⟩ := mem_getD h
  rw [rank_at hc i hi]; exact hi
theorem at_rank {c : List Int} (hc : c.Pairwise (· < ·)) {v : Int} (h : v ∈ c) : c.getD (rankI c v) 0 = v := by
  obtain ⟨i, hi, rfl⟩ := mem_getD h
  rw [rank_at hc i hi]
theorem asc_lt {c : List Int} (hc : c.Pairwise (· < ·)) {i j : Nat} (hj : j < c.length) (h : i < j) : c.getD i 0 < c.getD j 0 := by
  have := List.pairwise_iff_getElem.1 hc i j (by omega) hj h
  rwa [getD_get (show i < c.length by omega), getD_get hj]
theorem rank_mono {c : List Int} (hc : c.Pairwise (· < ·)) {u v : Int} (hu : u ∈ c) (hv : v ∈ c) (h : u < v) : rankI c u < rankI c v := by
  obtain ⟨i, hi, rfl⟩ := mem_getD hu
  obtain ⟨j, hj, rfl⟩ := mem_getD hv
  rw [rank_at hc i hi, rank_at hc j hj]
  rcases Nat.lt_or_ge i j with h1 | h1
  · exact h1
  · exfalso
    rcases Nat.lt_or_ge j i with h2 | h2
    · have := asc_lt hc hi h2; omega
    · have : i = j := by omega
      subst this; omega
/-- where a search by halves may stand: all ahead of i are less than v, none from j on is. -/
theorem rank_between {c : List Int} (hc : c.Pairwise (· < ·)) {v : Int} {i : Nat} (hi : i ≤ c.length) (h1 : ∀ k, k < i → c.getD k 0 < v) (h2 : ∀ k, i ≤ k → k < c.length → ¬ c.getD k 0 < v) : rankI c v = i := by
  have e : c = c.take i ++ c.drop i := (List.take_append_drop i c).symm
  unfold rankI
  rw [e, List.filter_append, List.length_append]
  have a1 : (c.take i).filter (fun u => decide (u < v)) = c.take i := List.filter_eq_self.2 fun u hu => by
    obtain ⟨k, hk, rfl⟩ := List.mem_iff_getElem.1 hu
    simp only [List.length_take] at hk
    have := h1 k (by omega)
    rw [getD_get (show k < c.length by omega)] at this
    rw [List.getElem_take]; simpa using this
  have a2 : (c.drop i).filter (fun u => decide (u < v)) = [] := List.filter_eq_nil_iff.2 fun u hu => by
    obtain ⟨k, hk, rfl⟩ := List.mem_iff_getElem.1 hu
    simp only [List.length_drop] at hk
    have := h2 (i + k) (by omega) (by omega)
    rw [getD_get (show i + k < c.length by omega)] at this
    rw [List.getElem_drop]; simpa using this
  rw [a1, a2, List.length_take]; simp; omega

/-- the order of edges. -/
def ltE (a b : Edge) : Prop := a.frm < b.frm ∨ (a.frm = b.frm ∧ (a.lab < b.lab ∨ (a.lab = b.lab ∧ a.to < b.to)))
theorem cmp_lt {a b : Edge} : cmpE a b < 0 ↔ ltE a b := by
  unfold cmpE ltE
  constructor
  · intro h
    split at h
    · omega
    split at h
    · omega
    split at h
    · omega
    split at h
    · omega
    split at h
    · omega
    split at h <;> omega
  · intro h
    split
    · omega
    split
    · omega
    split
    · omega
    split
    · omega
    split
    · omega
    split <;> omega
theorem ltE_trans {a b c : Edge} (h : ltE a b) (k : ltE b c) : ltE a c := by unfold ltE at *; omega
theorem edges_asc {g : Gr} (hg : gcheck g = 0) : g.edges.Pairwise ltE := by
  have hv := (gcheck_valid hg).2
  have hadj : ∀ i, i + 1 < g.edges.length → ltE (g.edges.getD i de) (g.edges.getD (i + 1) de) := fun i hi => by
    have := hv (i + 1) hi
    unfold edgeCheck at this
    split at this
    · cases this
    split at this
    · cases this
    · rename_i h
      rw [← cmp_lt]
      have h2 : ¬ 0 ≤ cmpE (g.edges.getD (i + 1 - 1) de) (g.edges.getD (i + 1) de) := fun hc => h ⟨by omega, hc⟩
      rw [show i + 1 - 1 = i by omega] at h2
      omega
  have all : ∀ j i, i < j → j < g.edges.length → ltE (g.edges.getD i de) (g.edges.getD j de) := fun j => by
    induction j with
    | zero => intro i h; omega
    | succ j ih =>
      intro i h hj
      by_cases e : i = j
      · subst e; exact hadj i hj
      · exact ltE_trans (ih i (by omega) (by omega)) (hadj j hj)
  rw [List.pairwise_iff_getElem]
  intro i j hi hj h
  have := all j i h hj
  rwa [getD_get hi, getD_get hj] at this

def inBoth (c : List Int) (x : Edge) : Bool := hasI c x.frm && hasI c x.to
def mapE (c : List Int) (x : Edge) : Edge := ⟨rankI c x.frm, x.lab, rankI c x.to⟩
def keepE (g : Gr) (c : List Int) (i : Nat) : List Edge := ((g.edges.take i).filter (inBoth c)).map (mapE c)
def keptG (g : Gr) (c : List Int) : Gr := ⟨g.labels, c.length, keepE g c g.edges.length⟩
@[simp] theorem keepE_zero {g : Gr} {c : List Int} : keepE g c 0 = [] := rfl
theorem keepE_succ {g : Gr} {c : List Int} {i : Nat} (h : i < g.edges.length) : keepE g c (i + 1) = if inBoth c (g.edges.getD i de) = true then keepE g c i ++ [mapE c (g.edges.getD i de)] else keepE g c i := by
  unfold keepE
  rw [List.take_succ_eq_append_getElem h, List.filter_append, List.map_append, getD_get h]
  cases hf : inBoth c g.edges[i] <;> simp [hf]
theorem keepE_len {g : Gr} {c : List Int} {i : Nat} : (keepE g c i).length ≤ g.edges.length := by
  unfold keepE
  rw [List.length_map]
  exact Nat.le_trans (List.length_filter_le _ _) (by rw [List.length_take]; omega)
theorem inBoth_mem {c : List Int} {x : Edge} (h : inBoth c x = true) : x.frm ∈ c ∧ x.to ∈ c := by
  unfold inBoth hasI at h
  simpa using h
theorem keep_mem {g : Gr} {c : List Int} {y : Edge} : y ∈ (keptG g c).edges ↔ ∃ x ∈ g.edges, inBoth c x = true ∧ y = mapE c x := by
  show y ∈ keepE g c g.edges.length ↔ _
  unfold keepE
  rw [List.take_length, List.mem_map]
  constructor
  · rintro ⟨x, hx, rfl⟩
    exact ⟨x, (List.mem_filter.1 hx).1, (List.mem_filter.1 hx).2, rfl⟩
  · rintro ⟨x, hx, hb, rfl⟩
    exact ⟨x, List.mem_filter.2 ⟨hx, hb⟩, rfl⟩
theorem keep_asc {g : Gr} (hg : gcheck g = 0) {c : List Int} (hc : c.Pairwise (· < ·)) : (keptG g c).edges.Pairwise ltE := by
  show (keepE g c g.edges.length).Pairwise ltE
  unfold keepE
  rw [List.take_length, List.pairwise_map]
  refine List.Pairwise.imp_of_mem ?_ ((edges_asc hg).filter _)
  intro a b ha hb h
  have h1 := inBoth_mem (List.mem_filter.1 ha).2
  have h2 := inBoth_mem (List.mem_filter.1 hb).2
  unfold ltE at h ⊢
  show (rankI c a.frm : Int) < (rankI c b.frm : Int) ∨ ((rankI c a.frm : Int) = (rankI c b.frm : Int) ∧ (a.lab < b.lab ∨ (a.lab = b.lab ∧ (rankI c a.to : Int) < (rankI c b.to : Int))))
  rcases h with h | ⟨e, h | ⟨e2, h⟩⟩
  · have := rank_mono hc h1.1 h2.1 h; omega
  · rw [e]; omega
  · have := rank_mono hc h1.2 h2.2 h; rw [e]; omega
theorem keep_valid {g : Gr} (hg : gcheck g = 0) {c : List Int} (hc : c.Pairwise (· < ·)) (hl : c.length ≤ 64) : gcheck (keptG g c) = 0 := by
  have hz := (gcheck_valid hg).1
  have hv := (gcheck_valid hg).2
  have hk := keepE_len (g := g) (c := c) (i := g.edges.length)
  have hed := hz.ed
  refine gcheck_ok ⟨hz.1, ⟨Int.natCast_nonneg _, by show (c.length : Int) ≤ 64; omega⟩, by show (keepE g c g.edges.length).length ≤ 1024; omega⟩ fun j hj => ?_
  have hm := getD_mem (d := de) hj
  obtain ⟨x, hx, hb, e⟩ := keep_mem.1 hm
  have hb' := inBoth_mem hb
  have r1 := rank_lt hc hb'.1
  have r2 := rank_lt hc hb'.2
  have hlab : 0 ≤ x.lab ∧ x.lab < g.labels := by
    obtain ⟨i, hi, rfl⟩ := List.mem_iff_getElem.1 hx
    have := hv i hi
    unfold edgeCheck at this
    rw [getD_get hi] at this
    by_cases ho : edgeOut g g.edges[i]
    · rw [if_pos ho] at this; cases this
    · unfold edgeOut at ho; omega
  unfold edgeCheck
  rw [if_neg, if_neg]
  · rintro ⟨h0, h⟩
    have := List.pairwise_iff_getElem.1 (keep_asc hg hc) (j - 1) j (by omega) hj (by omega)
    rw [← cmp_lt, ← getD_get (d := de) (show j - 1 < (keptG g c).edges.length by omega), ← getD_get (d := de) hj] at this
    omega
  · rw [e]
    unfold edgeOut
    show ¬ ((rankI c x.frm : Int) < 0 ∨ (c.length : Int) ≤ (rankI c x.frm : Int) ∨ (rankI c x.to : Int) < 0 ∨ (c.length : Int) ≤ (rankI c x.to : Int) ∨ x.lab < 0 ∨ g.labels ≤ x.lab)
    omega
/-- what is mutual in a component is mutual in the part on it. -/
theorem keep_rch {g : Gr} (hf : Fit g) {s : Nat} (hs : s < g.n) {u v : Nat} (hu : (u : Int) ∈ compL g s) (hv : (v : Int) ∈ compL g s) : Rch (keptG g (compL g s)) (rankI (compL g s) u) (rankI (compL g s) v) := by
  have hun := (comp_mem.1 hu)
  have hvn := (comp_mem.1 hv)
  have huv := (mutB_iff hf hun.1 hvn.1).1 (mutB_trans hf hun.1 hs hvn.1 (by rw [mutB_comm]; exact hun.2) hvn.2)
  have key : ∀ w, Rch g u w → Rch g w u → w < g.n ∧ Rch (keptG g (compL g s)) (rankI (compL g s) u) (rankI (compL g s) w) := by
    intro w h
    induction h with
    | refl => exact fun _ => ⟨hun.1, .refl⟩
    | @step t x ht hx he ih =>
      intro hb
      have h1 := ih (Rch.trans (Rch.step .refl hx he) hb)
      have htl := h1.1
      have hto := to_lt hf hx
      have hut : Rch g u x.to.toNat := ht.step hx he
      have ct : (t : Int) ∈ compL g s := comp_mem.2 ⟨htl, mutB_trans hf hs hun.1 htl hun.2 ((mutB_iff hf hun.1 htl).2 ⟨ht, Rch.trans (Rch.step .refl hx he) hb⟩)⟩
      have cx : ((x.to.toNat : Nat) : Int) ∈ compL g s := comp_mem.2 ⟨hto, mutB_trans hf hs hun.1 hto hun.2 ((mutB_iff hf hun.1 hto).2 ⟨hut, hb⟩)⟩
      have ex : ((x.to.toNat : Nat) : Int) = x.to := by have := hf.to x hx; omega
      refine ⟨hto, ?_⟩
      have hm : mapE (compL g s) x ∈ (keptG g (compL g s)).edges := keep_mem.2 ⟨x, hx, by
        unfold inBoth hasI
        rw [he, ← ex, decide_eq_true ct, decide_eq_true cx]; rfl, rfl⟩
      have := h1.2.step hm (by show (rankI (compL g s) x.frm : Int) = _; rw [he])
      have e2 : (mapE (compL g s) x).to.toNat = rankI (compL g s) ((x.to.toNat : Nat) : Int) := by rw [ex]; rfl
      rw [e2] at this
      exact this
  exact (key v huv.1 huv.2).2
theorem keep_irr {g : Gr} (hg : gcheck g = 0) {s : Nat} (hs : s < g.n) (hcy : cycB g (compL g s) = true) : irrB (keptG g (compL g s)) = true := by
  have hf := gcheck_fit hg
  have hc : (compL g s).Pairwise (· < ·) := compAt_asc
  have hcl : (compL g s).length ≤ 64 := by
    have := compAt_len (g := g) (s := s) (k := g.n)
    have := hf.st
    unfold compL Gr.n at *
    omega
  have hk := keep_valid hg (c := compL g s) hc hcl
  have hkf := gcheck_fit hk
  have hkn : (keptG g (compL g s)).n = (compL g s).length := by unfold Gr.n keptG; simp
  have hall : ∀ i j, i < (compL g s).length → j < (compL g s).length → Rch (keptG g (compL g s)) i j := fun i j hi hj => by
    have mi := getD_mem (d := 0) hi
    have mj := getD_mem (d := 0) hj
    obtain ⟨u, eu, _⟩ := comp_nonneg mi
    obtain ⟨v, ev, _⟩ := comp_nonneg mj
    have eu' : (compL g s).getD i 0 = (u : Int) := eu
    have ev' : (compL g s).getD j 0 = (v : Int) := ev
    have := keep_rch hf hs (u := u) (v := v) (by rw [← eu']; exact mi) (by rw [← ev']; exact mj)
    rwa [← eu', ← ev', rank_at hc i hi, rank_at hc j hj] at this
  have hmut : ∀ i j, i < (compL g s).length → j < (compL g s).length → mutB (keptG g (compL g s)) i j = true := fun i j hi hj => (mutB_iff hkf (by omega) (by omega)).2 ⟨hall i j hi hj, hall j i hj hi⟩
  have hpos : 0 < (compL g s).length := compL_pos hs
  have hlen : (compsL (keptG g (compL g s))).length = 1 := by
    have h1 : compL (keptG g (compL g s)) 0 ∈ compsL (keptG g (compL g s)) := comps_cover hkf (by omega)
    have h2 : ∀ d ∈ compsL (keptG g (compL g s)), d = compL (keptG g (compL g s)) 0 := fun d hd => by
      obtain ⟨m, hm, _, rfl⟩ := comps_mem.1 hd
      exact compL_mut hkf hm (by omega) (hmut m 0 (by omega) hpos)
    have h3 := comps_nodup (g := keptG g (compL g s))
    match hcs : compsL (keptG g (compL g s)), h1, h2, h3 with
    | [d], _, _, _ => rfl
    | d :: e :: l, _, h2, h3 =>
      have a1 := h2 d (by simp)
      have a2 := h2 e (by simp)
      rw [a1, a2] at h3
      simp at h3
  have hedge : 0 < (keptG g (compL g s)).edges.length := by
    unfold cycB at hcy
    obtain ⟨x, hx, hq⟩ := List.any_eq_true.1 hcy
    exact List.length_pos_of_mem (keep_mem.2 ⟨x, hx, hq, rfl⟩)
  unfold irrB
  simp [hk, hlen, hedge]
/-- an edge lies in the part on a cyclic component exactly if its end reaches its beginning. -/
theorem edge_kept {g : Gr} (hf : Fit g) {x : Edge} (hx : x ∈ g.edges) : ((compsL g).filter (cycB g)).any (fun c => inBoth c x) = true ↔ Rch g x.to.toNat x.frm.toNat := by
  have hfl := frm_lt hf hx
  have htl := to_lt hf hx
  have ef := frm_nat hf hx
  have et : ((x.to.toNat : Nat) : Int) = x.to := by have := hf.to x hx; omega
  rw [List.any_eq_true]
  constructor
  · rintro ⟨c, hc, hb⟩
    obtain ⟨m, hm, _, rfl⟩ := comps_mem.1 (List.mem_filter.1 hc).1
    have := inBoth_mem hb
    rw [← ef, ← et] at this
    have h1 := comp_mem.1 this.1
    have h2 := comp_mem.1 this.2
    exact (((mutB_iff hf hm htl).1 h2.2).2).trans ((mutB_iff hf hm hfl).1 h1.2).1
  · intro h
    have hm : mutB g x.frm.toNat x.to.toNat = true := (mutB_iff hf hfl htl).2 ⟨Rch.step .refl hx ef.symm, h⟩
    have hb : inBoth (compL g x.frm.toNat) x = true := by
      have h1 : (x.frm.toNat : Int) ∈ compL g x.frm.toNat := comp_mem.2 ⟨hfl, mutB_own hfl⟩
      have h2 : (x.to.toNat : Int) ∈ compL g x.frm.toNat := comp_mem.2 ⟨htl, hm⟩
      rw [ef] at h1; rw [et] at h2
      unfold inBoth hasI
      simp [h1, h2]
    exact ⟨_, List.mem_filter.2 ⟨comps_cover hf hfl, List.any_eq_true.2 ⟨x, hx, hb⟩⟩, hb⟩
end Go.Proofs.Ytkmnnmclebdjlaa

namespace Go.Proofs.Ytkmnnmclebdjlaa
set_option linter.unusedSimpArgs false
set_option linter.unusedVariables false
open Go Go.Lift

/-- the neighbours j - 1 and j change places. -/
def swapN (l : List Int) (j : Nat) : List Int := (l.set j (l.getD (j - 1) 0)).set (j - 1) (l.getD j 0)
theorem swapN_len {l : List Int} {j : Nat} : (swapN l j).length = l.length := by simp [swapN]
theorem swapN_perm {l : List Int} {j : Nat} (hj : j < l.length) : (swapN l j).Perm l := by
  unfold swapN
  rw [getD_get (show j - 1 < l.length by omega), getD_get hj]
  exact List.set_set_perm hj (by omega)
theorem swapN_at {l : List Int} {j k : Nat} (h0 : 0 < j) (hj : j < l.length) : (swapN l j).getD k 0 = if k = j - 1 then l.getD j 0 else if k = j then l.getD (j - 1) 0 else l.getD k 0 := by
  unfold swapN
  rw [getI_set, getI_set]
  simp only [List.length_set]
  by_cases e : k = j - 1
  · rw [if_pos ⟨e, by omega⟩, if_pos e]
  · rw [if_neg (by omega), if_neg e]
    by_cases e2 : k = j
    · rw [if_pos ⟨e2, by omega⟩, if_pos e2]
    · rw [if_neg (by omega), if_neg e2]
/-- the first i numbers are in order. -/
def Asc (l : List Int) (i : Nat) : Prop := ∀ p q, p < q → q < i → l.getD p 0 ≤ l.getD q 0
/-- the first i + 1 numbers are in order, but for the one at j, which is not greater than those behind it. -/
structure AscBut (l : List Int) (i j : Nat) : Prop where
  le : j ≤ i
  oth : ∀ p q, p < q → q ≤ i → p ≠ j → q ≠ j → l.getD p 0 ≤ l.getD q 0
  up : ∀ q, j < q → q ≤ i → l.getD j 0 ≤ l.getD q 0
theorem AscBut.first {l : List Int} {i : Nat} (h : Asc l i) : AscBut l i i :=
  ⟨Nat.le_refl _, fun p q hpq hq _ hqi => h p q hpq (by omega), fun q h1 h2 => by omega⟩
theorem AscBut.swap {l : List Int} {i j : Nat} (h : AscBut l i j) (hi : i < l.length) (h0 : 0 < j) (hlt : l.getD j 0 < l.getD (j - 1) 0) : AscBut (swapN l j) i (j - 1) := by
  have hj := h.le
  refine ⟨by omega, fun p q hpq hq hp hq2 => ?_, fun q h1 h2 => ?_⟩
  · rw [swapN_at h0 (by omega), swapN_at h0 (by omega), if_neg hp, if_neg hq2]
    by_cases ep : p = j
    · rw [if_pos ep, if_neg (by omega)]
      exact h.oth (j - 1) q (by omega) hq (by omega) (by omega)
    · rw [if_neg ep]
      by_cases eq : q = j
      · rw [if_pos eq]
        by_cases e3 : p = j - 1
        · omega
        · exact h.oth p (j - 1) (by omega) (by omega) ep (by omega)
      · rw [if_neg eq]; exact h.oth p q hpq hq ep eq
  · rw [swapN_at h0 (by omega), swapN_at h0 (by omega), if_pos rfl, if_neg (by omega)]
    by_cases e : q = j
    · rw [if_pos e]; omega
    · rw [if_neg e]; exact h.up q (by omega) h2
theorem AscBut.fin {l : List Int} {i j : Nat} (h : AscBut l i j) (hd : j = 0 ∨ ¬ l.getD j 0 < l.getD (j - 1) 0) : Asc l (i + 1) := by
  intro p q hpq hq
  by_cases ep : p = j
  · rw [ep]; exact h.up q (by omega) (by omega)
  · by_cases eq : q = j
    · rw [eq]
      rcases hd with hd | hd
      · omega
      · by_cases e3 : p = j - 1
        · rw [e3]; omega
        · have := h.oth p (j - 1) (by omega) (by omega) ep (by omega)
          omega
    · exact h.oth p q hpq (by omega) ep eq
/-- two lists in strict order of the same numbers are the same. -/
theorem asc_ext : ∀ {l m : List Int}, l.Pairwise (· < ·) → m.Pairwise (· < ·) → (∀ x, x ∈ l ↔ x ∈ m) → l = m
  | [], [], _, _, _ => rfl
  | [], b :: m, _, _, h => absurd ((h b).2 List.mem_cons_self) (by simp)
  | a :: l, [], _, _, h => absurd ((h a).1 List.mem_cons_self) (by simp)
  | a :: l, b :: m, hl, hm, h => by
    rw [List.pairwise_cons] at hl hm
    have hab : a = b := by
      rcases List.mem_cons.1 ((h a).1 List.mem_cons_self) with h1 | h1
      · exact h1
      · rcases List.mem_cons.1 ((h b).2 List.mem_cons_self) with h2 | h2
        · exact h2.symm
        · have := hm.1 a h1; have := hl.1 b h2; omega
    subst hab
    rw [asc_ext hl.2 hm.2 fun x => ?_]
    constructor
    · intro hx
      rcases List.mem_cons.1 ((h x).1 (List.mem_cons_of_mem _ hx)) with h1 | h1
      · have := hl.1 x hx; omega
      · exact h1
    · intro hx
      rcases List.mem_cons.1 ((h x).2 (List.mem_cons_of_mem _ hx)) with h1 | h1
      · have := hm.1 x hx; omega
      · exact h1
/-- a list in order, without repetition, is in strict order. -/
theorem asc_strict {l : List Int} (h : Asc l l.length) (hn : l.Nodup) : l.Pairwise (· < ·) := by
  rw [List.pairwise_iff_getElem]
  intro i j hi hj hij
  have h1 := h i j hij hj
  rw [getD_get hi, getD_get hj] at h1
  have h2 := List.pairwise_iff_getElem.1 hn i j hi hj hij
  omega
theorem nodup_len : ∀ {l m : List Int}, l.Nodup → (∀ x ∈ l, x ∈ m) → l.length ≤ m.length
  | [], _, _, _ => Nat.zero_le _
  | a :: l, m, hn, h => by
    have hn' := List.nodup_cons.1 hn
    have ha := h a List.mem_cons_self
    have := nodup_len (m := m.erase a) hn'.2 fun x hx => (List.mem_erase_of_ne (fun e => hn'.1 (by rw [← e]; exact hx))).2 (h x (List.mem_cons_of_mem _ hx))
    rw [List.length_erase_of_mem ha] at this
    have := List.length_pos_of_mem ha
    simp only [List.length_cons]
    omega

/-- what is reached, as numbers in order. -/
noncomputable def rchI (g : Gr) (s : Nat) : List Int := ((List.range g.n).filter fun t => (reachL g s).getD t false).map fun (t : Nat) => (t : Int)
theorem rchI_asc {g : Gr} {s : Nat} : (rchI g s).Pairwise (· < ·) := by
  unfold rchI
  rw [List.pairwise_map]
  exact (List.Pairwise.filter _ List.pairwise_lt_range).imp fun h => by omega
theorem rchI_mem {g : Gr} (hf : Fit g) {s : Nat} (hs : s < g.n) {x : Int} : x ∈ rchI g s ↔ 0 ≤ x ∧ Rch g s x.toNat := by
  constructor
  · intro h
    obtain ⟨u, hu, rfl⟩ := List.mem_map.1 h
    have := rchAt_mem.1 h
    exact ⟨by omega, (reachL_at this.1).1 this.2⟩
  · rintro ⟨h0, hr⟩
    have hx := Rch.lt hf hs hr
    have := (rchAt_mem (g := g) (s := s) (k := g.n) (t := x.toNat)).2 ⟨hx, (reachL_at hx).2 hr⟩
    rwa [show ((x.toNat : Nat) : Int) = x by omega] at this
/-- the search: the first j numbers of the list are through, and the first i edges of the next one. -/
structure Srch (g : Gr) (s : Nat) (l : List Int) (j i : Nat) : Prop where
  nodup : l.Nodup
  own : (s : Int) ∈ l
  rch : ∀ x ∈ l, x ∈ rchI g s
  le : j ≤ l.length
  done : ∀ k, k < j → ∀ x ∈ g.edges, x.frm = l.getD k 0 → x.to ∈ l
  part : ∀ x ∈ g.edges.take i, x.frm = l.getD j 0 → x.to ∈ l
theorem Srch.start {g : Gr} (hf : Fit g) {s : Nat} (hs : s < g.n) : Srch g s [(s : Int)] 0 0 :=
  ⟨by simp, by simp, fun x hx => by
    have : x = (s : Int) := by simpa using hx
    subst this
    exact (rchI_mem hf hs).2 ⟨by omega, by simpa using Rch.refl⟩, Nat.zero_le _, fun k h => absurd h (Nat.not_lt_zero _), fun x hx => by simp at hx⟩
theorem Srch.len {g : Gr} {s : Nat} {l : List Int} {j i : Nat} (h : Srch g s l j i) : l.length ≤ g.n := by
  have h1 := nodup_len h.nodup h.rch
  have h2 : (rchI g s).length ≤ g.n := by
    unfold rchI
    rw [List.length_map]
    exact Nat.le_trans (List.length_filter_le _ _) (by simp)
  omega
theorem Srch.skip {g : Gr} {s : Nat} {l : List Int} {j i : Nat} (h : Srch g s l j i) (hi : i < g.edges.length) (hn : (g.edges.getD i de).frm = l.getD j 0 → (g.edges.getD i de).to ∈ l) : Srch g s l j (i + 1) :=
  ⟨h.nodup, h.own, h.rch, h.le, h.done, fun x hx he => by
    rcases take_at hi hx with h1 | rfl
    · exact h.part x h1 he
    · exact hn he⟩
theorem Srch.push {g : Gr} (hf : Fit g) {s : Nat} (hs : s < g.n) {l : List Int} {j i : Nat} (h : Srch g s l j i) (hj : j < l.length) (hi : i < g.edges.length) (he : (g.edges.getD i de).frm = l.getD j 0) (hn : (g.edges.getD i de).to ∉ l) : Srch g s (l ++ [(g.edges.getD i de).to]) j (i + 1) := by
  have hx := getD_mem (d := de) hi
  have hto := hf.to _ hx
  have hat : ∀ k, k < l.length → (l ++ [(g.edges.getD i de).to]).getD k 0 = l.getD k 0 := fun k hk => by
    simp only [List.getD_eq_getElem?_getD]; rw [List.getElem?_append_left hk]
  refine ⟨?_, List.mem_append_left _ h.own, fun x hm => ?_, by simp; omega, fun k hk x hx2 he2 => ?_, fun x hx2 he2 => ?_⟩
  · rw [List.nodup_append]
    refine ⟨h.nodup, by simp, fun a ha b hb e => ?_⟩
    have : b = (g.edges.getD i de).to := by simpa [-List.getD_eq_getElem?_getD] using hb
    rw [e, this] at ha; exact hn ha
  · rcases List.mem_append.1 hm with h1 | h1
    · exact h.rch x h1
    · have : x = (g.edges.getD i de).to := by simpa [-List.getD_eq_getElem?_getD] using h1
      rw [this]
      have h2 := (rchI_mem hf hs).1 (h.rch _ (getD_mem (d := 0) hj))
      exact (rchI_mem hf hs).2 ⟨hto.1, h2.2.step hx (by omega)⟩
  · have := h.le
    rw [hat k (by omega)] at he2
    exact List.mem_append_left _ (h.done k hk x hx2 he2)
  · rw [hat j hj] at he2
    rcases take_at hi hx2 with h1 | rfl
    · exact List.mem_append_left _ (h.part x h1 he2)
    · exact List.mem_append_right _ (by simp)
theorem Srch.next {g : Gr} {s : Nat} {l : List Int} {j i : Nat} (h : Srch g s l j i) (hj : j < l.length) (hi : g.edges.length ≤ i) : Srch g s l (j + 1) 0 :=
  ⟨h.nodup, h.own, h.rch, by omega, fun k hk x hx he => by
    by_cases e : k = j
    · subst e; exact h.part x (by rw [List.take_of_length_le hi]; exact hx) he
    · exact h.done k (by omega) x hx he, fun x hx => by simp at hx⟩
theorem Srch.all {g : Gr} (hf : Fit g) {s : Nat} (hs : s < g.n) {l : List Int} {i : Nat} (h : Srch g s l l.length i) {x : Int} : x ∈ l ↔ x ∈ rchI g s := by
  refine ⟨h.rch x, fun hx => ?_⟩
  have h1 := (rchI_mem hf hs).1 hx
  have := Rch.mem (p := fun t => (t : Int) ∈ l) h.own (fun y hy t he ht => by
    obtain ⟨k, hk, e⟩ := List.mem_iff_getElem.1 ht
    have hto := hf.to y hy
    rw [show ((y.to.toNat : Nat) : Int) = y.to by omega]
    exact h.done k hk y hy (by rw [getD_get hk, e]; exact he)) h1.2
  rwa [show ((x.toNat : Nat) : Int) = x by omega] at this
/-- sorted, the found are the reached. -/
theorem Srch.sorted {g : Gr} (hf : Fit g) {s : Nat} (hs : s < g.n) {l m : List Int} {i : Nat} (h : Srch g s l l.length i) (hp : m.Perm l) (ha : Asc m m.length) : m = rchI g s :=
  asc_ext (asc_strict ha (hp.nodup_iff.2 h.nodup)) rchI_asc fun x => by rw [hp.mem_iff, h.all hf hs]
end Go.Proofs.Ytkmnnmclebdjlaa

namespace Go.Proofs.Ytkmnnmclebdjlaa
set_option linter.unusedSimpArgs false
set_option linter.unusedVariables false
open Go Go.Lift

def revE (x : Edge) : Edge := ⟨x.to, x.lab, x.frm⟩
theorem revE_inj {x y : Edge} (h : revE x = revE y) : x = y := by
  cases x; cases y; unfold revE at h; simp at h; simp [h]
theorem ltE_ne {a b : Edge} (h : ltE a b) : a ≠ b := fun e => by subst e; unfold ltE at h; omega
theorem ltE_total {a b : Edge} (h : ¬ ltE a b) (hne : a ≠ b) : ltE b a := by
  unfold ltE at *
  have : ¬ (a.frm = b.frm ∧ a.lab = b.lab ∧ a.to = b.to) := fun h2 => hne (by cases a; cases b; simp at h2; simp [h2])
  omega
theorem rev_nodup {g : Gr} (hg : gcheck g = 0) : (g.edges.map revE).Nodup := by
  rw [List.nodup_iff_pairwise_ne, List.pairwise_map]
  exact (edges_asc hg).imp fun h e => ltE_ne h (revE_inj e)
/-- in order, and without repetition: in strict order. -/
theorem strict_of {x : List Edge} (hn : x.Nodup) (ha : ∀ i j, i < j → j < x.length → ¬ cmpE (x.getD j de) (x.getD i de) < 0) : x.Pairwise ltE := by
  rw [List.pairwise_iff_getElem]
  intro i j hi hj hij
  have h1 := ha i j hij hj
  rw [cmp_lt, getD_get hj, getD_get hi] at h1
  refine ltE_total h1 fun e => ?_
  exact (List.pairwise_iff_getElem.1 (List.nodup_iff_pairwise_ne.1 hn) i j hi hj hij) e.symm
/-- h is g with its edges reversed. -/
structure IsRev (g h : Gr) : Prop where
  lab : h.labels = g.labels
  st : h.states = g.states
  perm : h.edges.Perm (g.edges.map revE)
  asc : h.edges.Pairwise ltE
theorem edge_lab {g : Gr} (hg : gcheck g = 0) {x : Edge} (hx : x ∈ g.edges) : 0 ≤ x.lab ∧ x.lab < g.labels := by
  obtain ⟨i, hi, rfl⟩ := List.mem_iff_getElem.1 hx
  have := (gcheck_valid hg).2 i hi
  unfold edgeCheck at this
  rw [getD_get hi] at this
  by_cases ho : edgeOut g g.edges[i]
  · rw [if_pos ho] at this; cases this
  · unfold edgeOut at ho; omega
theorem IsRev.mem {g h : Gr} (r : IsRev g h) {y : Edge} : y ∈ h.edges ↔ revE y ∈ g.edges := by
  rw [r.perm.mem_iff, List.mem_map]
  exact ⟨fun ⟨x, hx, e⟩ => by rw [← e]; exact hx, fun hy => ⟨_, hy, rfl⟩⟩
theorem IsRev.valid {g h : Gr} (hg : gcheck g = 0) (r : IsRev g h) : gcheck h = 0 := by
  have hz := (gcheck_valid hg).1
  have hf := gcheck_fit hg
  have hl : h.edges.length = g.edges.length := by rw [r.perm.length_eq, List.length_map]
  refine gcheck_ok ⟨by rw [r.lab]; exact hz.lab, by rw [r.st]; exact hz.st, by rw [hl]; exact hz.ed⟩ fun j hj => ?_
  have hm := r.mem.1 (getD_mem (d := de) hj)
  have h1 := hf.frm _ hm
  have h2 := hf.to _ hm
  have h3 := edge_lab hg hm
  unfold edgeCheck
  rw [if_neg, if_neg]
  · rintro ⟨h0, hc⟩
    have := List.pairwise_iff_getElem.1 r.asc (j - 1) j (by omega) hj (by omega)
    rw [← cmp_lt, ← getD_get (d := de) (show j - 1 < h.edges.length by omega), ← getD_get (d := de) hj] at this
    omega
  · unfold edgeOut
    rw [r.st, r.lab]
    unfold revE at h1 h2 h3
    simp only at h1 h2 h3
    omega
theorem IsRev.n {g h : Gr} (r : IsRev g h) : h.n = g.n := by unfold Gr.n; rw [r.st]
theorem IsRev.wlk {g h : Gr} (hg : gcheck g = 0) (r : IsRev g h) {s k t : Nat} (w : Wlk h s k t) : Wlk g t k s := by
  induction w with
  | nil => exact .nil
  | @snoc k t x _ hx he ih =>
    have hm := r.mem.1 hx
    have hf := gcheck_fit hg
    have e1 : (revE x).frm = x.to := rfl
    have e2 : (revE x).to = x.frm := rfl
    have h1 := hf.frm _ hm
    have w1 : Wlk g x.to.toNat 1 t := by
      have := (Wlk.nil (g := g) (s := x.to.toNat)).snoc hm (by rw [e1]; rw [e1] at h1; omega)
      rwa [e2, show x.frm.toNat = t by omega] at this
    have := w1.trans ih
    rwa [Nat.add_comm] at this
theorem IsRev.back {g h : Gr} (hg : gcheck g = 0) (r : IsRev g h) {s k t : Nat} (w : Wlk g s k t) : Wlk h t k s := by
  have hf := gcheck_fit (r.valid hg)
  induction w with
  | nil => exact .nil
  | @snoc k t x _ hx he ih =>
    have hm : revE x ∈ h.edges := r.mem.2 hx
    have e1 : (revE x).frm = x.to := rfl
    have e2 : (revE x).to = x.frm := rfl
    have h1 := hf.frm _ hm
    have w1 : Wlk h x.to.toNat 1 t := by
      have := (Wlk.nil (g := h) (s := x.to.toNat)).snoc hm (by rw [e1]; rw [e1] at h1; omega)
      rwa [e2, show x.frm.toNat = t by omega] at this
    have := w1.trans ih
    rwa [Nat.add_comm] at this
theorem IsRev.rch {g h : Gr} (hg : gcheck g = 0) (r : IsRev g h) {s t : Nat} : Rch h s t ↔ Rch g t s :=
  ⟨fun w => by obtain ⟨k, hk⟩ := w.wlk; exact (r.wlk hg hk).rch, fun w => by obtain ⟨k, hk⟩ := w.wlk; exact (r.back hg hk).rch⟩
theorem IsRev.mut {g h : Gr} (hg : gcheck g = 0) (r : IsRev g h) {s t : Nat} (hs : s < g.n) (ht : t < g.n) : mutB h s t = mutB g s t := by
  rw [Bool.eq_iff_iff, mutB_iff (gcheck_fit hg) hs ht, mutB_iff (gcheck_fit (r.valid hg)) (by rw [r.n]; exact hs) (by rw [r.n]; exact ht), r.rch hg, r.rch hg]
  exact And.comm
theorem IsRev.comp {g h : Gr} (hg : gcheck g = 0) (r : IsRev g h) {s : Nat} (hs : s < g.n) : compL h s = compL g s := by
  unfold compL compAt
  rw [r.n]
  congr 1
  apply List.filter_congr
  intro t ht
  exact r.mut hg hs (by simpa using ht)
theorem IsRev.comps {g h : Gr} (hg : gcheck g = 0) (r : IsRev g h) : compsL h = compsL g := by
  unfold compsL compsAt
  rw [r.n]
  have : (List.range g.n).filter (fun s => least h s) = (List.range g.n).filter fun s => least g s := by
    apply List.filter_congr
    intro s hs
    unfold least
    rw [r.comp hg (by simpa using hs)]
  rw [this]
  apply List.map_congr_left
  intro s hs
  exact r.comp hg (by simpa using (List.mem_filter.1 hs).1)
/-- whether an edge enters c. -/
def entersB (g : Gr) (c : List Int) : Bool := g.edges.any fun x => hasI c x.to && !hasI c x.frm
theorem IsRev.leaves {g h : Gr} (r : IsRev g h) (c : List Int) : leaves h c = entersB g c := by
  unfold Go.Proofs.Ytkmnnmclebdjlaa.leaves entersB
  rw [r.perm.any_eq, List.any_map]
  rfl
theorem IsRev.irr {g h : Gr} (hg : gcheck g = 0) (r : IsRev g h) : irrB h = irrB g := by
  unfold irrB
  rw [r.comps hg, r.perm.length_eq, List.length_map]
  simp [hg, r.valid hg]
theorem per_dvd {g h : Gr} (hg : gcheck g = 0) (r : IsRev g h) (hi : irrB g = true) : perL h ∣ perL g := by
  obtain ⟨m, n, h1, h2, e⟩ := per_dif0 hi
  have d1 := per_cycle (r.back hg h1)
  have d2 := per_cycle (r.back hg h2)
  have : m = perL g + n := by omega
  rw [this] at d1
  exact (Nat.dvd_add_left d2).1 d1
theorem per_dvd2 {g h : Gr} (hg : gcheck g = 0) (r : IsRev g h) (hi : irrB h = true) : perL g ∣ perL h := by
  obtain ⟨m, n, h1, h2, e⟩ := per_dif0 hi
  have d1 := per_cycle (r.wlk hg h1)
  have d2 := per_cycle (r.wlk hg h2)
  have : m = perL h + n := by omega
  rw [this] at d1
  exact (Nat.dvd_add_left d2).1 d1
theorem IsRev.per {g h : Gr} (hg : gcheck g = 0) (r : IsRev g h) (hi : irrB g = true) : perL h = perL g :=
  Nat.dvd_antisymm (per_dvd hg r hi) (per_dvd2 hg r (by rw [r.irr hg]; exact hi))
end Go.Proofs.Ytkmnnmclebdjlaa
