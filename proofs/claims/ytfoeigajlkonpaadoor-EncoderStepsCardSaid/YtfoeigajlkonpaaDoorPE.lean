/-
  Plain: the part of a graph on some of its states; the essential part; sums and products.
-/
import Derived.Test.YtfoeigajlkonpaaDoorPD
namespace Go.Proofs.YtfoeigajlkonpaaDoor
set_option linter.unusedSimpArgs false
set_option linter.unusedVariables false
open Go Go.Lift

/-- how many numbers of c are less than v. -/
def rankI (c : List Int) (v : Int) : Nat := (c.filter fun u => decide (u < v)).length
theorem rank_cons {a v : Int} {l : List Int} : rankI (a :: l) v = (if a < v then 1 else 0) + rankI l v := by
  unfold rankI
  by_cases h : a < v <;> simp [h]; omega
theorem rank_zero {v : Int} : ∀ {l : List Int}, (∀ u ∈ l, ¬ u < v) → rankI l v = 0
  | [], _ => rfl
  | a :: l, h => by rw [rank_cons, if_neg (h a List.mem_cons_self), rank_zero fun u hu => h u (List.mem_cons_of_mem _ hu)]
theorem rank_at : ∀ {c : List Int}, c.Pairwise (· < ·) → ∀ i, i < c.length → rankI c (c.getD i 0) = i
  | a :: l, h, 0, _ => by
    rw [List.pairwise_cons] at h
    show rankI (a :: l) a = 0
    rw [rank_cons, if_neg (by omega), rank_zero fun u hu => by have := h.1 u hu; omega]
  | a :: l, h, i + 1, hi => by
    rw [List.pairwise_cons] at h
    have hi' : i < l.length := by simpa using hi
    show rankI (a :: l) (l.getD i 0) = i + 1
    rw [rank_cons, if_pos (h.1 _ (getD_mem hi')), rank_at h.2 i hi']
    omega
theorem mem_getD {c : List Int} {v : Int} (h : v ∈ c) : ∃ i, i < c.length ∧ c.getD i 0 = v := by
  obtain ⟨i, hi, e⟩ := List.mem_iff_getElem.1 h
  exact ⟨i, hi, by rw [getD_get hi]; exact e⟩
theorem rank_lt {c : List Int} (hc : c.Pairwise (· < ·)) {v : Int} (h : v ∈ c) : rankI c v < c.length := by
  obtain ⟨i, hi, rfl⟩ := mem_getD h
  rw [rank_at hc i hi]; exact hi
theorem at_rank {c : List Int} (hc : c.Pairwise (· < ·)) {v : Int} (h : v ∈ c) : c.getD (rankI c v) 0 = v := by
  obtain ⟨i, hi, rfl⟩ := mem_getD h
  rw [rank_at hc i hi]
theorem asc_lt {c : List Int} (hc : c.Pairwise (· < ·)) {i j : Nat} (hj : j < c.length) (h : i < j) : c.getD i 0 < c.getD j 0 := by
  have := List.pairwise_iff_getElem.1 hc i j (by omega) hj h
  rwa [getD_get (show i < c.length by omega), getD_get hj]
theorem rank_mono {c : List Int} (hc : c.Pairwise (· < ·)) {u v : Int} (hu : u ∈ c) (hv : v ∈ c) (h : u < v) : rankI c u < rankI c v := by
  obtain ⟨i, hi, rfl⟩ := mem_getD hu
  obtain ⟨j, hj, rfl⟩ := mem_getD hv
  rw [rank_at hc i hi, rank_at hc j hj]
  rcases Nat.lt_or_ge i j with h1 | h1
  · exact h1
  · exfalso
    rcases Nat.lt_or_ge j i with h2 | h2
    · have := asc_lt hc hi h2; omega
    · have : i = j := by omega
      subst this; omega
/-- where a search by halves may stand: all ahead of i are less than v, none from j on is. -/
theorem rank_between {c : List Int} (hc : c.Pairwise (· < ·)) {v : Int} {i : Nat} (hi : i ≤ c.length) (h1 : ∀ k, k < i → c.getD k 0 < v) (h2 : ∀ k, i ≤ k → k < c.length → ¬ c.getD k 0 < v) : rankI c v = i := by
  have e : c = c.take i ++ c.drop i := (List.take_append_drop i c).symm
  unfold rankI
  rw [e, List.filter_append, List.length_append]
  have a1 : (c.take i).filter (fun u => decide (u < v)) = c.take i := List.filter_eq_self.2 fun u hu => by
    obtain ⟨k, hk, rfl⟩ := List.mem_iff_getElem.1 hu
    simp only [List.length_take] at hk
    have := h1 k (by omega)
    rw [getD_get (show k < c.length by omega)] at this
    rw [List.getElem_take]; simpa using this
  have a2 : (c.drop i).filter (fun u => decide (u < v)) = [] := List.filter_eq_nil_iff.2 fun u hu => by
    obtain ⟨k, hk, rfl⟩ := List.mem_iff_getElem.1 hu
    simp only [List.length_drop] at hk
    have := h2 (i + k) (by omega) (by omega)
    rw [getD_get (show i + k < c.length by omega)] at this
    rw [List.getElem_drop]; simpa using this
  rw [a1, a2, List.length_take]; simp; omega
def inBoth (c : List Int) (x : Edge) : Bool := hasI c x.frm && hasI c x.to
def mapE (c : List Int) (x : Edge) : Edge := ⟨rankI c x.frm, x.lab, rankI c x.to⟩
def keepE (g : Gr) (c : List Int) (i : Nat) : List Edge := ((g.edges.take i).filter (inBoth c)).map (mapE c)
def keptG (g : Gr) (c : List Int) : Gr := ⟨g.labels, c.length, keepE g c g.edges.length⟩
@[simp] theorem keepE_zero {g : Gr} {c : List Int} : keepE g c 0 = [] := rfl
theorem keepE_succ {g : Gr} {c : List Int} {i : Nat} (h : i < g.edges.length) : keepE g c (i + 1) = if inBoth c (g.edges.getD i de) = true then keepE g c i ++ [mapE c (g.edges.getD i de)] else keepE g c i := by
  unfold keepE
  rw [List.take_succ_eq_append_getElem h, List.filter_append, List.map_append, getD_get h]
  cases hf : inBoth c g.edges[i] <;> simp [hf]
theorem keepE_len {g : Gr} {c : List Int} {i : Nat} : (keepE g c i).length ≤ g.edges.length := by
  unfold keepE
  rw [List.length_map]
  exact Nat.le_trans (List.length_filter_le _ _) (by rw [List.length_take]; omega)
theorem inBoth_mem {c : List Int} {x : Edge} (h : inBoth c x = true) : x.frm ∈ c ∧ x.to ∈ c := by
  unfold inBoth hasI at h
  simpa using h
theorem place_rank {c : List Int} (hc : c.Pairwise (· < ·)) {v : Int} (h : v ∈ c) : placeI c v = rankI c v := by
  have h1 := rank_lt hc h
  refine placeI_some c v (rankI c v) h1 (fun j hj e => ?_) (at_rank hc h)
  have := asc_lt hc h1 hj
  rw [at_rank hc h, e] at this
  omega

/-- the numbers 0 .. m - 1. -/
def iotaL (m : Nat) : List Int := (List.range m).map fun (i : Nat) => (i : Int)
theorem iota_len {m : Nat} : (iotaL m).length = m := by simp [iotaL]
theorem iota_at {m q : Nat} (h : q < m) : (iotaL m).getD q 0 = q := by simp [iotaL, List.getD, h]
theorem iota_all {m : Nat} : m = (iotaL m).length ∧ (iotaL m).length ≤ m ∧ ∀ i, i < (iotaL m).length → (i : Int) = (iotaL m).getD i 0 :=
  ⟨iota_len.symm, Nat.le_of_eq iota_len, fun i hi => by rw [iota_len] at hi; exact (iota_at hi).symm⟩
theorem iota_asc {m : Nat} : (iotaL m).Pairwise (· < ·) := by
  unfold iotaL
  rw [List.pairwise_map]
  exact (List.pairwise_lt_range (n := m)).imp fun h => by omega
theorem iota_mem {m : Nat} {x : Int} (h : x ∈ iotaL m) : 0 ≤ x ∧ x < m := by
  obtain ⟨i, hi, rfl⟩ := List.mem_map.1 h
  have := List.mem_range.1 hi
  omega

/-- entered and left within L. -/
def goodB (g : Gr) (L : List Int) (s : Int) : Bool := (g.edges.any fun x => decide (x.to = s) && hasI L x.frm) && (g.edges.any fun x => decide (x.frm = s) && hasI L x.to)
def essAt (g : Gr) : Nat → List Int
  | 0 => iotaL g.states.toNat
  | k + 1 => (essAt g k).filter (goodB g (essAt g k))
def essL (g : Gr) : List Int := essAt g g.states.toNat
theorem ess_asc {g : Gr} : ∀ {k : Nat}, (essAt g k).Pairwise (· < ·)
  | 0 => iota_asc
  | k + 1 => (ess_asc (k := k)).filter _
theorem ess_box {g : Gr} (hs : 0 ≤ g.states) : ∀ {k : Nat} {x : Int}, x ∈ essAt g k → 0 ≤ x ∧ x < g.states
  | 0, x, h => by have := iota_mem h; omega
  | k + 1, x, h => ess_box hs (k := k) (List.mem_filter.1 h).1
theorem ess_len {g : Gr} : ∀ {k : Nat}, (essAt g k).length ≤ g.states.toNat
  | 0 => by show (iotaL _).length ≤ _; rw [iota_len]; exact Nat.le_refl _
  | k + 1 => Nat.le_trans (List.length_filter_le _ _) (ess_len (k := k))
theorem ess_down {g : Gr} {k : Nat} : (essAt g (k + 1)).length ≤ (essAt g k).length := List.length_filter_le _ _
theorem ess_stop {g : Gr} {k : Nat} (h : (essAt g (k + 1)).length = (essAt g k).length) : essAt g (k + 1) = essAt g k :=
  List.filter_eq_self.2 (List.length_filter_eq_length_iff.1 h)
theorem ess_stay {g : Gr} {k : Nat} (h : essAt g (k + 1) = essAt g k) : ∀ m, essAt g (k + m) = essAt g k
  | 0 => rfl
  | m + 1 => by
    have ih := ess_stay h m
    show (essAt g (k + m)).filter (goodB g (essAt g (k + m))) = _
    rw [ih]; exact h
theorem ess_done {g : Gr} {k : Nat} (hk : (essAt g k).length + k ≤ g.states.toNat) (h : (essAt g (k + 1)).length = (essAt g k).length) : essAt g k = essL g := by
  have := ess_stay (ess_stop h) (g.states.toNat - k)
  unfold essL
  rw [← this, show k + (g.states.toNat - k) = g.states.toNat by omega]

/-- what is entered, and left, by the first i edges within L. -/
def entM (g : Gr) (L : List Int) : Nat → List (Int × Bool)
  | 0 => []
  | i + 1 => if inBoth L (g.edges.getD i de) = true then alPut (entM g L i) (g.edges.getD i de).to true else entM g L i
def leaM (g : Gr) (L : List Int) : Nat → List (Int × Bool)
  | 0 => []
  | i + 1 => if inBoth L (g.edges.getD i de) = true then alPut (leaM g L i) (g.edges.getD i de).frm true else leaM g L i
theorem alGet_put {α β : Type} [DecidableEq α] : ∀ {m : List (α × β)} {k k' : α} {v : β}, alGet (alPut m k v) k' = if k' = k then some v else alGet m k'
  | [], k, k', v => by simp [alPut, alGet]
  | (a, b) :: r, k, k', v => by
    by_cases h : k = a
    · subst h
      simp only [alPut, if_true, alGet]
      by_cases h2 : k' = k
      · rw [if_pos h2, if_pos h2]
      · rw [if_neg h2, if_neg h2, if_neg h2]
    · simp only [alPut, if_neg h, alGet]
      by_cases h2 : k' = a
      · subst h2
        rw [if_pos rfl, if_neg (fun e => h e.symm), if_pos rfl]
      · rw [if_neg h2, alGet_put, if_neg h2]
theorem put_size {α β : Type} [DecidableEq α] : ∀ {m : List (α × β)} {k : α} {v : β}, (alPut m k v).length ≤ m.length + 1
  | [], _, _ => by simp [alPut]
  | (a, b) :: r, k, v => by
    simp only [alPut]
    split
    · simp
    · have := put_size (m := r) (k := k) (v := v); simp; omega
theorem ent_get {g : Gr} {L : List Int} {s : Int} : ∀ {i : Nat}, i ≤ g.edges.length → (alGet (entM g L i) s).getD false = (g.edges.take i).any fun x => inBoth L x && decide (x.to = s)
  | 0, _ => by simp [entM, alGet]
  | i + 1, h => by
    have ih := ent_get (g := g) (L := L) (s := s) (i := i) (by omega)
    rw [List.take_succ_eq_append_getElem h, List.any_append, ← ih, ← getD_get (d := de) h]
    simp only [entM, List.any_cons, List.any_nil, Bool.or_false]
    generalize g.edges.getD i de = e
    by_cases hb : inBoth L e = true
    · rw [if_pos hb, hb, alGet_put]
      by_cases hs : s = e.to
      · rw [if_pos hs]; simp [hs]
      · rw [if_neg hs]; simp; exact fun h => absurd h.symm hs
    · rw [if_neg hb]; simp [hb]
theorem lea_get {g : Gr} {L : List Int} {s : Int} : ∀ {i : Nat}, i ≤ g.edges.length → (alGet (leaM g L i) s).getD false = (g.edges.take i).any fun x => inBoth L x && decide (x.frm = s)
  | 0, _ => by simp [leaM, alGet]
  | i + 1, h => by
    have ih := lea_get (g := g) (L := L) (s := s) (i := i) (by omega)
    rw [List.take_succ_eq_append_getElem h, List.any_append, ← ih, ← getD_get (d := de) h]
    simp only [leaM, List.any_cons, List.any_nil, Bool.or_false]
    generalize g.edges.getD i de = e
    by_cases hb : inBoth L e = true
    · rw [if_pos hb, hb, alGet_put]
      by_cases hs : s = e.frm
      · rw [if_pos hs]; simp [hs]
      · rw [if_neg hs]; simp; exact fun h => absurd h.symm hs
    · rw [if_neg hb]; simp [hb]
/-- whether a state is struck out. -/
def outM (A B : List (Int × Bool)) (s : Int) : Bool := !((alGet A s).getD false) || !((alGet B s).getD false)
theorem out_good {g : Gr} {L : List Int} {s : Int} (hs : s ∈ L) : outM (entM g L g.edges.length) (leaM g L g.edges.length) s = !goodB g L s := by
  have hL : hasI L s = true := decide_eq_true hs
  unfold outM goodB
  rw [ent_get (Nat.le_refl _), lea_get (Nat.le_refl _), List.take_length, Bool.not_and]
  have e1 : (g.edges.any fun x => inBoth L x && decide (x.to = s)) = g.edges.any fun x => decide (x.to = s) && hasI L x.frm := by
    congr 1; funext x
    by_cases h : x.to = s
    · simp [inBoth, h, hL]
    · simp [h]
  have e2 : (g.edges.any fun x => inBoth L x && decide (x.frm = s)) = g.edges.any fun x => decide (x.frm = s) && hasI L x.to := by
    congr 1; funext x
    by_cases h : x.frm = s
    · simp [inBoth, h, hL]
    · simp [h]
  rw [e1, e2]
theorem out_filter {g : Gr} {k : Nat} : (essAt g k).filter (fun s => !outM (entM g (essAt g k) g.edges.length) (leaM g (essAt g k) g.edges.length) s) = essAt g (k + 1) := by
  show _ = (essAt g k).filter (goodB g (essAt g k))
  refine List.filter_congr fun s hs => ?_
  rw [out_good hs, Bool.not_not]

/-- a list from which elements are struck out in place. -/
def kpt (q : Int → Bool) (l : List Int) (m : Nat) : List Int := (l.take m).filter fun x => !q x
def kptG (q : Int → Bool) (l : List Int) (m i : Nat) : Int := if i < (kpt q l m).length then (kpt q l m).getD i 0 else l.getD i 0
theorem kpt_len {q : Int → Bool} {l : List Int} {m : Nat} : (kpt q l m).length ≤ m := Nat.le_trans (List.length_filter_le _ _) (by rw [List.length_take]; omega)
theorem kpt_succ {q : Int → Bool} {l : List Int} {m : Nat} (h : m < l.length) : kpt q l (m + 1) = if q (l.getD m 0) = true then kpt q l m else kpt q l m ++ [l.getD m 0] := by
  unfold kpt
  rw [List.take_succ_eq_append_getElem h, List.filter_append, getD_get h]
  cases hq : q l[m] <;> simp [hq]
theorem kpt_none {q : Int → Bool} {l : List Int} : ∀ {m : Nat}, m ≤ l.length → (∀ j, j < m → q (l.getD j 0) = false) → kpt q l m = l.take m
  | 0, _, _ => by simp [kpt]
  | m + 1, h, hn => by
    rw [kpt_succ (by omega), if_neg (by rw [hn m (by omega)]; simp), kpt_none (by omega) fun j hj => hn j (by omega), List.take_succ_eq_append_getElem (by omega), getD_get]
theorem kptG_old {q : Int → Bool} {l : List Int} {m i : Nat} (h : (kpt q l m).length ≤ i) : kptG q l m i = l.getD i 0 := if_neg (by omega)
theorem kptG_first {q : Int → Bool} {l : List Int} {m i : Nat} (h : m ≤ l.length) (hn : ∀ j, j < m → q (l.getD j 0) = false) : kptG q l m i = l.getD i 0 := by
  unfold kptG
  rw [kpt_none h hn]
  split
  · rename_i hi
    rw [List.length_take] at hi
    simp [List.getD, List.getElem?_take, show i < m by omega]
  · rfl
theorem kptG_skip {q : Int → Bool} {l : List Int} {m i : Nat} (h : m < l.length) (hq : q (l.getD m 0) = true) : kptG q l (m + 1) i = kptG q l m i := by
  unfold kptG; rw [kpt_succ h, if_pos hq]
theorem kptG_put {q : Int → Bool} {l : List Int} {m i : Nat} (h : m < l.length) (hq : q (l.getD m 0) = false) : kptG q l (m + 1) i = if i = (kpt q l m).length then l.getD m 0 else kptG q l m i := by
  have e : kpt q l (m + 1) = kpt q l m ++ [l.getD m 0] := by rw [kpt_succ h, hq]; simp
  unfold kptG
  rw [e]
  by_cases h1 : i = (kpt q l m).length
  · rw [if_pos h1, if_pos (by simp [h1]), h1]; simp [List.getD]
  · rw [if_neg h1]
    by_cases h2 : i < (kpt q l m).length
    · rw [if_pos h2, if_pos (by simp; omega)]; simp [List.getD, List.getElem?_append_left h2]
    · rw [if_neg h2, if_neg (by simp; omega)]
theorem kpt_all {q : Int → Bool} {l : List Int} : kpt q l l.length = l.filter fun x => !q x := by unfold kpt; rw [List.take_length]
end Go.Proofs.YtfoeigajlkonpaaDoor
