/-
  Plain laws of this seat: the part of a graph on some of its states.
-/
import Derived.Test.YtkmnnmclebdjlaaPM
namespace Go.Proofs.Ytkmnnmclebdjlaa
set_option linter.unusedSimpArgs false
set_option linter.unusedVariables false
open Go Go.Lift

/-- how many numbers of c are less than v. -/
def rankI (c : List Int) (v : Int) : Nat := (c.filter fun u => decide (u < v)).length
theorem rank_cons {a v : Int} {l : List Int} : rankI (a :: l) v = (if a < v then 1 else 0) + rankI l v := by
  unfold rankI
  by_cases h : a < v <;> simp [h]; omega
theorem rank_zero {v : Int} : ∀ {l : List Int}, (∀ u ∈ l, ¬ u < v) → rankI l v = 0
  | [], _ => rfl
  | a :: l, h => by rw [rank_cons, if_neg (h a List.mem_cons_self), rank_zero fun u hu => h u (List.mem_cons_of_mem _ hu)]
theorem rank_at : ∀ {c : List Int}, c.Pairwise (· < ·) → ∀ i, i < c.length → rankI c (c.getD i 0) = i
  | a :: l, h, 0, _ => by
    rw [List.pairwise_cons] at h
    show rankI (a :: l) a = 0
    rw [rank_cons, if_neg (by omega), rank_zero fun u hu => by have := h.1 u hu; omega]
  | a :: l, h, i + 1, hi => by
    rw [List.pairwise_cons] at h
    have hi' : i < l.length := by simpa using hi
    show rankI (a :: l) (l.getD i 0) = i + 1
    rw [rank_cons, if_pos (h.1 _ (getD_mem hi')), rank_at h.2 i hi']
    omega
theorem mem_getD {c : List Int} {v : Int} (h : v ∈ c) : ∃ i, i < c.length ∧ c.getD i 0 = v := by
  obtain ⟨i, hi, e⟩ := List.mem_iff_getElem.1 h
  exact ⟨i, hi, by rw [getD_get hi]; exact e⟩
theorem rank_lt {c : List Int} (hc : c.Pairwise (· < ·)) {v : Int} (h : v ∈ c) : rankI c v < c.length := by
  obtain ⟨i, hi, rfl⟩ := mem_getD h
  rw [rank_at hc i hi]; exact hi
theorem at_rank {c : List Int} (hc : c.Pairwise (· < ·)) {v : Int} (h : v ∈ c) : c.getD (rankI c v) 0 = v := by
  obtain ⟨i, hi, rfl⟩ := mem_getD h
  rw [rank_at hc i hi]
theorem asc_lt {c : List Int} (hc : c.Pairwise (· < ·)) {i j : Nat} (hj : j < c.length) (h : i < j) : c.getD i 0 < c.getD j 0 := by
  have := List.pairwise_iff_getElem.1 hc i j (by omega) hj h
  rwa [getD_get (show i < c.length by omega), getD_get hj]
theorem rank_mono {c : List Int} (hc : c.Pairwise (· < ·)) {u v : Int} (hu : u ∈ c) (hv : v ∈ c) (h : u < v) : rankI c u < rankI c v := by
  obtain ⟨i, hi, rfl⟩ := mem_getD hu
  obtain ⟨j, hj, rfl⟩ := mem_getD hv
  rw [rank_at hc i hi, rank_at hc j hj]
  rcases Nat.lt_or_ge i j with h1 | h1
  · exact h1
  · exfalso
    rcases Nat.lt_or_ge j i with h2 | h2
    · have := asc_lt hc hi h2; omega
    · have : i = j := by omega
      subst this; omega
/-- where a search by halves may stand: all ahead of i are less than v, none from j on is. -/
theorem rank_between {c : List Int} (hc : c.Pairwise (· < ·)) {v : Int} {i : Nat} (hi : i ≤ c.length) (h1 : ∀ k, k < i → c.getD k 0 < v) (h2 : ∀ k, i ≤ k → k < c.length → ¬ c.getD k 0 < v) : rankI c v = i := by
  have e : c = c.take i ++ c.drop i := (List.take_append_drop i c).symm
  unfold rankI
  rw [e, List.filter_append, List.length_append]
  have a1 : (c.take i).filter (fun u => decide (u < v)) = c.take i := List.filter_eq_self.2 fun u hu => by
    obtain ⟨k, hk, rfl⟩ := List.mem_iff_getElem.1 hu
    simp only [List.length_take] at hk
    have := h1 k (by omega)
    rw [getD_get (show k < c.length by omega)] at this
    rw [List.getElem_take]; simpa using this
  have a2 : (c.drop i).filter (fun u => decide (u < v)) = [] := List.filter_eq_nil_iff.2 fun u hu => by
    obtain ⟨k, hk, rfl⟩ := List.mem_iff_getElem.1 hu
    simp only [List.length_drop] at hk
    have := h2 (i + k) (by omega) (by omega)
    rw [getD_get (show i + k < c.length by omega)] at this
    rw [List.getElem_drop]; simpa using this
  rw [a1, a2, List.length_take]; simp; omega

/-- the order of edges. -/
def ltE (a b : Edge) : Prop := a.frm < b.frm ∨ (a.frm = b.frm ∧ (a.lab < b.lab ∨ (a.lab = b.lab ∧ a.to < b.to)))
theorem cmp_lt {a b : Edge} : cmpE a b < 0 ↔ ltE a b := by
  unfold cmpE ltE
  constructor
  · intro h
    split at h
    · omega
    split at h
    · omega
    split at h
    · omega
    split at h
    · omega
    split at h
    · omega
    split at h <;> omega
  · intro h
    split
    · omega
    split
    · omega
    split
    · omega
    split
    · omega
    split
    · omega
    split <;> omega
theorem ltE_trans {a b c : Edge} (h : ltE a b) (k : ltE b c) : ltE a c := by unfold ltE at *; omega
theorem edges_asc {g : Gr} (hg : gcheck g = 0) : g.edges.Pairwise ltE := by
  have hv := (gcheck_valid hg).2
  have hadj : ∀ i, i + 1 < g.edges.length → ltE (g.edges.getD i de) (g.edges.getD (i + 1) de) := fun i hi => by
    have := hv (i + 1) hi
    unfold edgeCheck at this
    split at this
    · cases this
    split at this
    · cases this
    · rename_i h
      rw [← cmp_lt]
      have h2 : ¬ 0 ≤ cmpE (g.edges.getD (i + 1 - 1) de) (g.edges.getD (i + 1) de) := fun hc => h ⟨by omega, hc⟩
      rw [show i + 1 - 1 = i by omega] at h2
      omega
  have all : ∀ j i, i < j → j < g.edges.length → ltE (g.edges.getD i de) (g.edges.getD j de) := fun j => by
    induction j with
    | zero => intro i h; omega
    | succ j ih =>
      intro i h hj
      by_cases e : i = j
      · subst e; exact hadj i hj
      · exact ltE_trans (ih i (by omega) (by omega)) (hadj j hj)
  rw [List.pairwise_iff_getElem]
  intro i j hi hj h
  have := all j i h hj
  rwa [getD_get hi, getD_get hj] at this

def inBoth (c : List Int) (x : Edge) : Bool := hasI c x.frm && hasI c x.to
def mapE (c : List Int) (x : Edge) : Edge := ⟨rankI c x.frm, x.lab, rankI c x.to⟩
def keepE (g : Gr) (c : List Int) (i : Nat) : List Edge := ((g.edges.take i).filter (inBoth c)).map (mapE c)
def keptG (g : Gr) (c : List Int) : Gr := ⟨g.labels, c.length, keepE g c g.edges.length⟩
@[simp] theorem keepE_zero {g : Gr} {c : List Int} : keepE g c 0 = [] := rfl
theorem keepE_succ {g : Gr} {c : List Int} {i : Nat} (h : i < g.edges.length) : keepE g c (i + 1) = if inBoth c (g.edges.getD i de) = true then keepE g c i ++ [mapE c (g.edges.getD i de)] else keepE g c i := by
  unfold keepE
  rw [List.take_succ_eq_append_getElem h, List.filter_append, List.map_append, getD_get h]
  cases hf : inBoth c g.edges[i] <;> simp [hf]
theorem keepE_len {g : Gr} {c : List Int} {i : Nat} : (keepE g c i).length ≤ g.edges.length := by
  unfold keepE
  rw [List.length_map]
  exact Nat.le_trans (List.length_filter_le _ _) (by rw [List.length_take]; omega)
theorem inBoth_mem {c : List Int} {x : Edge} (h : inBoth c x = true) : x.frm ∈ c ∧ x.to ∈ c := by
  unfold inBoth hasI at h
  simpa using h
theorem keep_mem {g : Gr} {c : List Int} {y : Edge} : y ∈ (keptG g c).edges ↔ ∃ x ∈ g.edges, inBoth c x = true ∧ y = mapE c x := by
  show y ∈ keepE g c g.edges.length ↔ _
  unfold keepE
  rw [List.take_length, List.mem_map]
  constructor
  · rintro ⟨x, hx, rfl⟩
    exact ⟨x, (List.mem_filter.1 hx).1, (List.mem_filter.1 hx).2, rfl⟩
  · rintro ⟨x, hx, hb, rfl⟩
    exact ⟨x, List.mem_filter.2 ⟨hx, hb⟩, rfl⟩
theorem keep_asc {g : Gr} (hg : gcheck g = 0) {c : List Int} (hc : c.Pairwise (· < ·)) : (keptG g c).edges.Pairwise ltE := by
  show (keepE g c g.edges.length).Pairwise ltE
  unfold keepE
  rw [List.take_length, List.pairwise_map]
  refine List.Pairwise.imp_of_mem ?_ ((edges_asc hg).filter _)
  intro a b ha hb h
  have h1 := inBoth_mem (List.mem_filter.1 ha).2
  have h2 := inBoth_mem (List.mem_filter.1 hb).2
  unfold ltE at h ⊢
  show (rankI c a.frm : Int) < (rankI c b.frm : Int) ∨ ((rankI c a.frm : Int) = (rankI c b.frm : Int) ∧ (a.lab < b.lab ∨ (a.lab = b.lab ∧ (rankI c a.to : Int) < (rankI c b.to : Int))))
  rcases h with h | ⟨e, h | ⟨e2, h⟩⟩
  · have := rank_mono hc h1.1 h2.1 h; omega
  · rw [e]; omega
  · have := rank_mono hc h1.2 h2.2 h; rw [e]; omega
theorem keep_valid {g : Gr} (hg : gcheck g = 0) {c : List Int} (hc : c.Pairwise (· < ·)) (hl : c.length ≤ 64) : gcheck (keptG g c) = 0 := by
  have hz := (gcheck_valid hg).1
  have hv := (gcheck_valid hg).2
  have hk := keepE_len (g := g) (c := c) (i := g.edges.length)
  have hed := hz.ed
  refine gcheck_ok ⟨hz.1, ⟨Int.natCast_nonneg _, by show (c.length : Int) ≤ 64; omega⟩, by show (keepE g c g.edges.length).length ≤ 1024; omega⟩ fun j hj => ?_
  have hm := getD_mem (d := de) hj
  obtain ⟨x, hx, hb, e⟩ := keep_mem.1 hm
  have hb' := inBoth_mem hb
  have r1 := rank_lt hc hb'.1
  have r2 := rank_lt hc hb'.2
  have hlab : 0 ≤ x.lab ∧ x.lab < g.labels := by
    obtain ⟨i, hi, rfl⟩ := List.mem_iff_getElem.1 hx
    have := hv i hi
    unfold edgeCheck at this
    rw [getD_get hi] at this
    by_cases ho : edgeOut g g.edges[i]
    · rw [if_pos ho] at this; cases this
    · unfold edgeOut at ho; omega
  unfold edgeCheck
  rw [if_neg, if_neg]
  · rintro ⟨h0, h⟩
    have := List.pairwise_iff_getElem.1 (keep_asc hg hc) (j - 1) j (by omega) hj (by omega)
    rw [← cmp_lt, ← getD_get (d := de) (show j - 1 < (keptG g c).edges.length by omega), ← getD_get (d := de) hj] at this
    omega
  · rw [e]
    unfold edgeOut
    show ¬ ((rankI c x.frm : Int) < 0 ∨ (c.length : Int) ≤ (rankI c x.frm : Int) ∨ (rankI c x.to : Int) < 0 ∨ (c.length : Int) ≤ (rankI c x.to : Int) ∨ x.lab < 0 ∨ g.labels ≤ x.lab)
    omega
/-- what is mutual in a component is mutual in the part on it. -/
theorem keep_rch {g : Gr} (hf : Fit g) {s : Nat} (hs : s < g.n) {u v : Nat} (hu : (u : Int) ∈ compL g s) (hv : (v : Int) ∈ compL g s) : Rch (keptG g (compL g s)) (rankI (compL g s) u) (rankI (compL g s) v) := by
  have hun := (comp_mem.1 hu)
  have hvn := (comp_mem.1 hv)
  have huv := (mutB_iff hf hun.1 hvn.1).1 (mutB_trans hf hun.1 hs hvn.1 (by rw [mutB_comm]; exact hun.2) hvn.2)
  have key : ∀ w, Rch g u w → Rch g w u → w < g.n ∧ Rch (keptG g (compL g s)) (rankI (compL g s) u) (rankI (compL g s) w) := by
    intro w h
    induction h with
    | refl => exact fun _ => ⟨hun.1, .refl⟩
    | @step t x ht hx he ih =>
      intro hb
      have h1 := ih (Rch.trans (Rch.step .refl hx he) hb)
      have htl := h1.1
      have hto := to_lt hf hx
      have hut : Rch g u x.to.toNat := ht.step hx he
      have ct : (t : Int) ∈ compL g s := comp_mem.2 ⟨htl, mutB_trans hf hs hun.1 htl hun.2 ((mutB_iff hf hun.1 htl).2 ⟨ht, Rch.trans (Rch.step .refl hx he) hb⟩)⟩
      have cx : ((x.to.toNat : Nat) : Int) ∈ compL g s := comp_mem.2 ⟨hto, mutB_trans hf hs hun.1 hto hun.2 ((mutB_iff hf hun.1 hto).2 ⟨hut, hb⟩)⟩
      have ex : ((x.to.toNat : Nat) : Int) = x.to := by have := hf.to x hx; omega
      refine ⟨hto, ?_⟩
      have hm : mapE (compL g s) x ∈ (keptG g (compL g s)).edges := keep_mem.2 ⟨x, hx, by
        unfold inBoth hasI
        rw [he, ← ex, decide_eq_true ct, decide_eq_true cx]; rfl, rfl⟩
      have := h1.2.step hm (by show (rankI (compL g s) x.frm : Int) = _; rw [he])
      have e2 : (mapE (compL g s) x).to.toNat = rankI (compL g s) ((x.to.toNat : Nat) : Int) := by rw [ex]; rfl
      rw [e2] at this
      exact this
  exact (key v huv.1 huv.2).2
theorem keep_irr {g : Gr} (hg : gcheck g = 0) {s : Nat} (hs : s < g.n) (hcy : cycB g (compL g s) = true) : irrB (keptG g (compL g s)) = true := by
  have hf := gcheck_fit hg
  have hc : (compL g s).Pairwise (· < ·) := compAt_asc
  have hcl : (compL g s).length ≤ 64 := by
    have := compAt_len (g := g) (s := s) (k := g.n)
    have := hf.st
    unfold compL Gr.n at *
    omega
  have hk := keep_valid hg (c := compL g s) hc hcl
  have hkf := gcheck_fit hk
  have hkn : (keptG g (compL g s)).n = (compL g s).length := by unfold Gr.n keptG; simp
  have hall : ∀ i j, i < (compL g s).length → j < (compL g s).length → Rch (keptG g (compL g s)) i j := fun i j hi hj => by
    have mi := getD_mem (d := 0) hi
    have mj := getD_mem (d := 0) hj
    obtain ⟨u, eu, _⟩ := comp_nonneg mi
    obtain ⟨v, ev, _⟩ := comp_nonneg mj
    have eu' : (compL g s).getD i 0 = (u : Int) := eu
    have ev' : (compL g s).getD j 0 = (v : Int) := ev
    have := keep_rch hf hs (u := u) (v := v) (by rw [← eu']; exact mi) (by rw [← ev']; exact mj)
    rwa [← eu', ← ev', rank_at hc i hi, rank_at hc j hj] at this
  have hmut : ∀ i j, i < (compL g s).length → j < (compL g s).length → mutB (keptG g (compL g s)) i j = true := fun i j hi hj => (mutB_iff hkf (by omega) (by omega)).2 ⟨hall i j hi hj, hall j i hj hi⟩
  have hpos : 0 < (compL g s).length := compL_pos hs
  have hlen : (compsL (keptG g (compL g s))).length = 1 := by
    have h1 : compL (keptG g (compL g s)) 0 ∈ compsL (keptG g (compL g s)) := comps_cover hkf (by omega)
    have h2 : ∀ d ∈ compsL (keptG g (compL g s)), d = compL (keptG g (compL g s)) 0 := fun d hd => by
      obtain ⟨m, hm, _, rfl⟩ := comps_mem.1 hd
      exact compL_mut hkf hm (by omega) (hmut m 0 (by omega) hpos)
    have h3 := comps_nodup (g := keptG g (compL g s))
    match hcs : compsL (keptG g (compL g s)), h1, h2, h3 with
    | [d], _, _, _ => rfl
    | d :: e :: l, _, h2, h3 =>
      have a1 := h2 d (by simp)
      have a2 := h2 e (by simp)
      rw [a1, a2] at h3
      simp at h3
  have hedge : 0 < (keptG g (compL g s)).edges.length := by
    unfold cycB at hcy
    obtain ⟨x, hx, hq⟩ := List.any_eq_true.1 hcy
    exact List.length_pos_of_mem (keep_mem.2 ⟨x, hx, hq, rfl⟩)
  unfold irrB
  simp [hk, hlen, hedge]
/-- an edge lies in the part on a cyclic component exactly if its end reaches its beginning. -/
theorem edge_kept {g : Gr} (hf : Fit g) {x : Edge} (hx : x ∈ g.edges) : ((compsL g).filter (cycB g)).any (fun c => inBoth c x) = true ↔ Rch g x.to.toNat x.frm.toNat := by
  have hfl := frm_lt hf hx
  have htl := to_lt hf hx
  have ef := frm_nat hf hx
  have et : ((x.to.toNat : Nat) : Int) = x.to := by have := hf.to x hx; omega
  rw [List.any_eq_true]
  constructor
  · rintro ⟨c, hc, hb⟩
    obtain ⟨m, hm, _, rfl⟩ := comps_mem.1 (List.mem_filter.1 hc).1
    have := inBoth_mem hb
    rw [← ef, ← et] at this
    have h1 := comp_mem.1 this.1
    have h2 := comp_mem.1 this.2
    exact (((mutB_iff hf hm htl).1 h2.2).2).trans ((mutB_iff hf hm hfl).1 h1.2).1
  · intro h
    have hm : mutB g x.frm.toNat x.to.toNat = true := (mutB_iff hf hfl htl).2 ⟨Rch.step .refl hx ef.symm, h⟩
    have hb : inBoth (compL g x.frm.toNat) x = true := by
      have h1 : (x.frm.toNat : Int) ∈ compL g x.frm.toNat := comp_mem.2 ⟨hfl, mutB_own hfl⟩
      have h2 : (x.to.toNat : Int) ∈ compL g x.frm.toNat := comp_mem.2 ⟨htl, hm⟩
      rw [ef] at h1; rw [et] at h2
      unfold inBoth hasI
      simp [h1, h2]
    exact ⟨_, List.mem_filter.2 ⟨comps_cover hf hfl, List.any_eq_true.2 ⟨x, hx, hb⟩⟩, hb⟩
end Go.Proofs.Ytkmnnmclebdjlaa
